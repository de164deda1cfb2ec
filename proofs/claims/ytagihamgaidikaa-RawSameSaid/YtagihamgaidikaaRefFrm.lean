/- The references' comparing of frames. -/
import Derived.Test.YtagihamgaidikaaRefSame
import Derived.Laws.BytesArg
import Derived.StillTailTactics
set_option linter.unusedVariables false
set_option linter.unusedSimpArgs false
namespace Go.Proofs.Ytagihamgaidikaa
open Go.RowKit
set_option maxHeartbeats 4000000
theorem str_inj {xs ys : List Int} (hx : ∀ x ∈ xs, Rg .u8 x) (hy : ∀ y ∈ ys, Rg .u8 y) (h : strOfNums xs = strOfNums ys) : xs = ys := by
  have h1 : (strOfNums xs).data.toList = (strOfNums ys).data.toList := by rw [h]
  rw [strOfNums_data, strOfNums_data] at h1
  clear h
  induction xs generalizing ys with
  | nil => cases ys with
    | nil => rfl
    | cons y ys => simp at h1
  | cons x xs ih => cases ys with
    | nil => simp at h1
    | cons y ys =>
      simp only [List.map_cons, List.cons.injEq] at h1
      have hx0 := hx x (by simp)
      have hy0 := hy y (by simp)
      simp only [Rg] at hx0 hy0
      have e : x = y := by
        have h2 := congrArg UInt8.toNat h1.1
        simp only [UInt8.toNat_ofNat'] at h2
        omega
      rw [e, ih (fun z hz => hx z (by simp [hz])) (fun z hz => hy z (by simp [hz])) h1.2]
theorem C_rg {k : IntKind} {e : Nat} {b : Zn} {w : World} {A : Option Addr} {xs : List Int} (h : (Kd.int k).C e b w A xs) : ∀ x ∈ xs, Rg k x := by
  intro x hx
  obtain ⟨i, hi, rfl⟩ := List.getElem_of_mem hx
  obtain ⟨_, _, _, _, _, hr⟩ := C_int h hi
  simpa [List.getD_eq_getElem?_getD, hi] using hr
/-- string(b). -/
theorem conv_u8 {b : Zn} {w : World} {A : Option Addr} {xs : List Int} (c : Nat) (h : U8.C 5 b w A xs) : (convert 24 9 (.slice A xs.length c)).run Try.prog w = .ok (.string (strOfNums xs)) w := by
  rcases A with _ | ⟨g, o, sp⟩
  · cases xs with
    | nil => exact run_convert_bytes_nil w 24 5 Try.underlying24 Try.underlying5 0 c 9 Try.underlying9
    | cons x xs =>
      obtain ⟨_, _, h, _⟩ := C_int h (i := 0) (by simp)
      cases h
  · cases xs with
    | nil =>
      rw [show strOfNums [] = ByteArray.empty from rfl]
      rw [run_convert_bytes_string w 24 9 5 _ _ _ Try.underlying24 Try.underlying5 Try.underlying9]
      simp [Conv.bytesToString, loadCells, loadCellsFrom]
    | cons x xs =>
      obtain ⟨g', o', h1, _⟩ := C_int h (i := 0) (by simp)
      simp only [Option.some.injEq, Addr.mk.injEq] at h1
      obtain ⟨rfl, rfl, rfl⟩ := h1
      refine run_convert_bytes_arg w 24 5 Try.underlying24 Try.underlying5 g o _ c (x :: xs) rfl (fun i hi => ?_) 9 Try.underlying9
      obtain ⟨g', o', h1, _, h2, _⟩ := C_int h hi
      simp only [Option.some.injEq, Addr.mk.injEq] at h1
      obtain ⟨rfl, rfl, _⟩ := h1
      exact h2
theorem toList_inj {s t : ByteArray} (h : s.toList = t.toList) : s = t := by
  rw [ByteArray.toList_eq, ByteArray.toList_eq] at h
  obtain ⟨⟨x⟩⟩ := s
  obtain ⟨⟨y⟩⟩ := t
  simp only at h
  rw [h]
theorem below_drew0 (w : World) : Below w.heap.size w w.drew := (Below.refl _ w).drew
set_option maxRecDepth 100000 in
theorem ref_frm (x y : Frm) (cs ds : List Value) (b : Zn) (w : World) (hx : kFrm.K b w x cs) (hy : kFrm.K b w y ds) :
    Calls Try.prog 7 #[.agg cs.toArray, .agg ds.toArray] w fun e w' => e = .returned (.bool (sameB x y)) ∧ Below w.heap.size w w' := by
  obtain ⟨A0, c0, A1, c1, A2, c2, rfl, ⟨_, _, hC⟩, _, ⟨_, _, hB⟩, ⟨_, _, hF⟩⟩ := K_frm.1 hx
  obtain ⟨B0, d0, B1, d1, B2, d2, rfl, ⟨_, _, hC'⟩, _, ⟨_, _, hB'⟩, ⟨_, _, hF'⟩⟩ := K_frm.1 hy
  have hu := Try.underlying26
  have hu2 := Try.underlying37
  obtain ⟨x0, x1, x2, x3, x4⟩ := x
  obtain ⟨y0, y1, y2, y3, y4⟩ := y
  dsimp only at hC hC' hB hB' hF hF'
  clear hx hy
  have kx := fun (o1 o2 : Obj) => conv_u8 c2 (Kd.C_below hF (show Below w.heap.size w ((w.alloc o1).alloc o2) from (by repeat (first | with_reducible exact Below.refl _ _ | with_reducible assumption | with_reducible refine Below.drew ?_ | with_reducible refine below_drewN ?_ _ | (with_reducible refine Below.alloc ?_ ?_ _; rotate_left 1; focus (first | (simp; done) | (simp; omega) | omega)) | (with_reducible refine Below.setCell ?_ ?_ _; rotate_left 1; focus (first | (simp; done) | (simp; omega) | omega))))))
  have ky := fun (o1 o2 : Obj) => conv_u8 d2 (Kd.C_below hF' (show Below w.heap.size w ((w.alloc o1).alloc o2) from (by repeat (first | with_reducible exact Below.refl _ _ | with_reducible assumption | with_reducible refine Below.drew ?_ | with_reducible refine below_drewN ?_ _ | (with_reducible refine Below.alloc ?_ ?_ _; rotate_left 1; focus (first | (simp; done) | (simp; omega) | omega)) | (with_reducible refine Below.setCell ?_ ?_ _; rotate_left 1; focus (first | (simp; done) | (simp; omega) | omega))))))
  have hbc := hC.1
  have hbc' := hC'.1
  have hbb := hB.1
  have hbb' := hB'.1
  by_cases hH : x1 = y1 ∧ x2 = y2 ∧ x4 = y4 ∧ x0.length = y0.length ∧ x3.length = y3.length
  · obtain ⟨rfl, rfl, rfl, hl, hl2⟩ := hH
    have hl' : ((x0.length : Int) != (y0.length : Int)) = false := by simp [hl]
    have hl2' : ((x3.length : Int) != (y3.length : Int)) = false := by simp [hl2]
    have HL := Lib.hid hl
    have HL2 := Lib.hid hl2
    clear hl hl2 hF hF'
    go_enter Try.func7, Try.ntmps7
    go_wp2
    clear kx ky
    go_loopw [5] (fun i wr => ∃ k : Nat, k ≤ x0.length ∧ i = .int .i64 k ∧ Hid (x0.take k = y0.take k) ∧ Below w.heap.size w wr ∧ w.heap.size + 1 < wr.heap.size ∧
      wr.cell? ⟨w.heap.size, 0, none⟩ = some (.slice A0 x0.length c0) ∧ wr.cell? ⟨w.heap.size + 1, 0, none⟩ = some (.slice B0 y0.length d0) ∧
      wr.cell? ⟨w.heap.size, 3, none⟩ = some (.slice A1 x3.length c1) ∧ wr.cell? ⟨w.heap.size + 1, 3, none⟩ = some (.slice B1 y3.length d1)) (fun i _ => x0.length - (intOf i).toNat)
    case atStart => exact ⟨0, Nat.zero_le _, rfl, by simp [Hid], (by repeat (first | with_reducible exact Below.refl _ _ | with_reducible assumption | with_reducible refine Below.drew ?_ | with_reducible refine below_drewN ?_ _ | (with_reducible refine Below.alloc ?_ ?_ _; rotate_left 1; focus (first | (simp; done) | (simp; omega) | omega)) | (with_reducible refine Below.setCell ?_ ?_ _; rotate_left 1; focus (first | (simp; done) | (simp; omega) | omega)))), by simp, by go_simp, by go_simp, by go_simp, by go_simp⟩
    case round =>
      obtain ⟨k, hk, rfl, ht, hB0, hz1, q0, q1, q2, q3⟩ := hrel
      have hz0 : w.heap.size < wr.heap.size := by omega
      by_cases hlt : k < x0.length
      · have hlt' : k < y0.length := by rw [← HL.out]; exact hlt
        obtain ⟨g, o, cs, rfl, hgx, hK, hcx⟩ := Kd.C_at (Kd.C_below hC hB0) default hlt
        obtain ⟨g', o', cs', rfl, hgy, hK', hcy⟩ := Kd.C_at (Kd.C_below hC' hB0) default hlt'
        generalize hX : x0.getD k default = X at hK
        generalize hY : y0.getD k default = Y at hK'
        have HX := Lib.hid hX
        have HY := Lib.hid hY
        clear hX hY
        have key := fun W hW => ref_chn X Y _ _ b W (Kd.K_below hK hW) (Kd.K_below hK' hW)
        obtain ⟨E0, e0, E1, e1, E2, e2, E3, e3, E4, e4, rfl, _, _, _, _, _, _⟩ := K_chn.1 hK
        obtain ⟨F0, f0, F1, f1, F2, f2, F3, f3, F4, f4, rfl, _, _, _, _, _, _⟩ := K_chn.1 hK'
        have cx0 := hcx 0 _ rfl
        have cx1 := hcx 1 _ rfl
        have cx2 := hcx 2 _ rfl
        have cx3 := hcx 3 _ rfl
        have cx4 := hcx 4 _ rfl
        have cx5 := hcx 5 _ rfl
        have cx6 := hcx 6 _ rfl
        have cx7 := hcx 7 _ rfl
        have cx8 := hcx 8 _ rfl
        have cy0 := hcy 0 _ rfl
        have cy1 := hcy 1 _ rfl
        have cy2 := hcy 2 _ rfl
        have cy3 := hcy 3 _ rfl
        have cy4 := hcy 4 _ rfl
        have cy5 := hcy 5 _ rfl
        have cy6 := hcy 6 _ rfl
        have cy7 := hcy 7 _ rfl
        have cy8 := hcy 8 _ rfl
        simp only [show kChn.sz = 9 from rfl, Nat.add_zero, ← Nat.add_assoc] at cx0 cx1 cx2 cx3 cx4 cx5 cx6 cx7 cx8 cy0 cy1 cy2 cy3 cy4 cy5 cy6 cy7 cy8
        have KEY := Lib.hid key
        clear key hK hK' hcx hcy
        by_cases hXY : X = Y
        · have hd := sameB_yes hXY
          have HN := Lib.hid hXY
          clear hXY
          go_wp2_with fail
          go_still_tail 10, (by kernel_rfl)
          go_wp2_with (go_at_call 20; refine (KEY.out _ (by repeat (first | with_reducible exact Below.refl _ _ | with_reducible assumption | with_reducible refine Below.drew ?_ | with_reducible refine below_drewN ?_ _ | (with_reducible refine Below.alloc ?_ ?_ _; rotate_left 1; focus (first | (simp; done) | (simp; omega) | omega)) | (with_reducible refine Below.setCell ?_ ?_ _; rotate_left 1; focus (first | (simp; done) | (simp; omega) | omega))))).mono ?_; rintro e w' ⟨rfl, hB1⟩)
          all_goals
            go_roundw
            case rel => exact ⟨k + 1, by omega, by go_num, eq_step default ht.out hlt hlt' (HX.out.trans (HN.out.trans HY.out.symm)), below_then hB0 (below_then (below_drew0 _) hB1), Nat.lt_of_lt_of_le hz1 hB1.size, (hB1.cell (p := ⟨_, 0, none⟩) hz0).trans q0, (hB1.cell (p := ⟨_, 0, none⟩) hz1).trans q1, (hB1.cell (p := ⟨_, 3, none⟩) hz0).trans q2, (hB1.cell (p := ⟨_, 3, none⟩) hz1).trans q3⟩
            case measure => simp [intOf]; omega
        · have hd := sameB_no hXY
          have HN := Lib.hid hXY
          clear hXY
          go_wp2_with fail
          go_still_tail 10, (by kernel_rfl)
          go_wp2_with (go_at_call 20; refine (KEY.out _ (by repeat (first | with_reducible exact Below.refl _ _ | with_reducible assumption | with_reducible refine Below.drew ?_ | with_reducible refine below_drewN ?_ _ | (with_reducible refine Below.alloc ?_ ?_ _; rotate_left 1; focus (first | (simp; done) | (simp; omega) | omega)) | (with_reducible refine Below.setCell ?_ ?_ _; rotate_left 1; focus (first | (simp; done) | (simp; omega) | omega))))).mono ?_; rintro e w' ⟨rfl, hB1⟩)
          go_ret
          refine ⟨?_, below_then hB0 (below_then (below_drew0 _) hB1)⟩
          have : x0 ≠ y0 := eq_not (i := k) default (by rw [HX.out, HY.out]; exact HN.out)
          simp [sameB, this]
      · obtain rfl : k = x0.length := by omega
        have h0 : x0 = y0 := eq_end HL.out ht.out
        have H0 := Lib.hid h0
        clear h0
        go_wp2
        go_loopw [6] (fun i wq => ∃ k : Nat, k ≤ x3.length ∧ i = .int .i64 k ∧ Hid (x3.take k = y3.take k) ∧ ∃ n, wq = wr.drewN n) (fun i _ => x3.length - (intOf i).toNat)
        case atStart => exact ⟨0, Nat.zero_le _, rfl, by simp [Hid], 0, rfl⟩
        case round =>
          obtain ⟨k, hk, rfl, ht, n, rfl⟩ := hrel
          by_cases hlt : k < x3.length
          · have hlt' : k < y3.length := by rw [← HL2.out]; exact hlt
            obtain ⟨g, o, D0, e0, rfl, hgx, hcx, _, _, hD⟩ := C_sl (Kd.C_below hB hB0) hlt
            obtain ⟨g', o', D1, e1, rfl, hgy, hcy, _, _, hD'⟩ := C_sl (Kd.C_below hB' hB0) hlt'
            generalize hX : x3.getD k [] = X at hcx hD
            generalize hY : y3.getD k [] = Y at hcy hD'
            have HX := Lib.hid hX
            have HY := Lib.hid hY
            clear hX hY
            have hbX := hD.1
            have hbY := hD'.1
            by_cases hm : X.length = Y.length
            · have hm' : ((X.length : Int) != (Y.length : Int)) = false := by simp [hm]
              have HM := Lib.hid hm
              clear hm
              go_wp2_with fail
              go_quiet (fail)
              go_wp2
              go_loopw [7] (fun j wi => ∃ q : Nat, q ≤ X.length ∧ j = .int .i64 q ∧ Hid (X.take q = Y.take q) ∧ ∃ n, wi = wr.drewN n) (fun j _ => X.length - (intOf j).toNat)
              case atStart => exact ⟨0, Nat.zero_le _, rfl, by simp [Hid], _, World.drewN_drewN ..⟩
              case round =>
                obtain ⟨q, hq, rfl, hu', n, rfl⟩ := hrel
                by_cases hlq : q < X.length
                · have hlq' : q < Y.length := by rw [← HM.out]; exact hlq
                  obtain ⟨g2, o2, rfl, _, hcx2⟩ := C_bool hD hlq
                  obtain ⟨g3, o3, rfl, _, hcy2⟩ := C_bool hD' hlq'
                  generalize hP : X.getD q false = P at hcx2
                  generalize hQ : Y.getD q false = Q at hcy2
                  have HP := Lib.hid hP
                  have HQ := Lib.hid hQ
                  clear hP hQ
                  by_cases hXY : P = Q
                  · subst hXY
                    go_wp2_with fail
                    go_quiet (fail)
                    go_wp2
                    all_goals
                      go_roundw
                      case rel => exact ⟨q + 1, by omega, by go_num, eq_step false hu'.out hlq hlq' (HP.out.trans HQ.out.symm), _, rfl⟩
                      case measure => simp [intOf]; omega
                  · have hne : (P != Q) = true := by simp [hXY]
                    have hne2 : (!(P == Q)) = true := by simp [hXY]
                    have HN := Lib.hid hXY
                    clear hXY
                    go_wp2_with fail
                    go_quiet (fail)
                    go_wp2
                    go_ret
                    refine ⟨?_, (by repeat (first | with_reducible exact Below.refl _ _ | with_reducible assumption | with_reducible refine Below.drew ?_ | with_reducible refine below_drewN ?_ _ | (with_reducible refine Below.alloc ?_ ?_ _; rotate_left 1; focus (first | (simp; done) | (simp; omega) | omega)) | (with_reducible refine Below.setCell ?_ ?_ _; rotate_left 1; focus (first | (simp; done) | (simp; omega) | omega))))⟩
                    have h1 : X ≠ Y := eq_not (i := q) false (by rw [HP.out, HQ.out]; exact HN.out)
                    have : x3 ≠ y3 := eq_not (i := k) [] (by rw [HX.out, HY.out]; exact h1)
                    simp [sameB, this]
                · obtain rfl : q = X.length := by omega
                  have h1 : X = Y := eq_end HM.out hu'.out
                  have H1 := Lib.hid h1
                  clear h1
                  go_wp2
                  all_goals
                    go_roundw
                    case rel => exact ⟨k + 1, by omega, by go_num, eq_step [] ht.out hlt hlt' (HX.out.trans (H1.out.trans HY.out.symm)), _, rfl⟩
                    case measure => simp [intOf]; omega
            · have hm' : ((X.length : Int) != (Y.length : Int)) = true := by simp; omega
              have h1 : X ≠ Y := fun e => hm (by rw [e])
              have H1 := Lib.hid h1
              clear h1 hm
              go_wp2_with fail
              go_quiet (fail)
              go_wp2
              go_ret
              refine ⟨?_, (by repeat (first | with_reducible exact Below.refl _ _ | with_reducible assumption | with_reducible refine Below.drew ?_ | with_reducible refine below_drewN ?_ _ | (with_reducible refine Below.alloc ?_ ?_ _; rotate_left 1; focus (first | (simp; done) | (simp; omega) | omega)) | (with_reducible refine Below.setCell ?_ ?_ _; rotate_left 1; focus (first | (simp; done) | (simp; omega) | omega))))⟩
              have : x3 ≠ y3 := eq_not (i := k) [] (by rw [HX.out, HY.out]; exact H1.out)
              simp [sameB, this]
          · obtain rfl : k = x3.length := by omega
            go_wp2
            go_ret
            have h3 : x3 = y3 := eq_end HL2.out ht.out
            exact ⟨by simp [sameB, H0.out, h3], (by repeat (first | with_reducible exact Below.refl _ _ | with_reducible assumption | with_reducible refine Below.drew ?_ | with_reducible refine below_drewN ?_ _ | (with_reducible refine Below.alloc ?_ ?_ _; rotate_left 1; focus (first | (simp; done) | (simp; omega) | omega)) | (with_reducible refine Below.setCell ?_ ?_ _; rotate_left 1; focus (first | (simp; done) | (simp; omega) | omega))))⟩
  · have hne : (⟨x0, x1, x2, x3, x4⟩ : Frm) ≠ ⟨y0, y1, y2, y3, y4⟩ := by
      intro e
      simp only [Frm.mk.injEq] at e
      obtain ⟨rfl, rfl, rfl, rfl, rfl⟩ := e
      exact hH ⟨rfl, rfl, rfl, rfl, rfl⟩
    rw [sameB_no hne]
    have HH := Lib.hid hH
    have HI := Lib.hid (show strOfNums x4 = strOfNums y4 → x4 = y4 from str_inj (C_rg hF) (C_rg hF'))
    clear hne hH hF hF'
    generalize strOfNums x4 = s at kx HI
    generalize strOfNums y4 = t at ky HI
    go_enter Try.func7, Try.ntmps7
    go_wp2_with fail
    all_goals first
      | (go_ret
         exact ⟨rfl, (by repeat (first | with_reducible exact Below.refl _ _ | with_reducible assumption | with_reducible refine Below.drew ?_ | with_reducible refine below_drewN ?_ _ | (with_reducible refine Below.alloc ?_ ?_ _; rotate_left 1; focus (first | (simp; done) | (simp; omega) | omega)) | (with_reducible refine Below.setCell ?_ ?_ _; rotate_left 1; focus (first | (simp; done) | (simp; omega) | omega))))⟩)
      | (exfalso
         have h5 : (x0.length : Int) = y0.length := by assumption
         have h6 : ((x3.length : Int) != (y3.length : Int)) = false := by assumption
         exact HH.out ⟨by assumption, by assumption, HI.out (toList_inj (by assumption)), by omega, by have := bne_eq_false_iff_eq.1 h6; omega⟩)
end Go.Proofs.Ytagihamgaidikaa
