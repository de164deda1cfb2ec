/- The references' comparing: they compare as the program does. -/
import Derived.Test.YtagihamgaidikaaSame
set_option linter.unusedVariables false
set_option linter.unusedSimpArgs false
namespace Go.Proofs.Ytagihamgaidikaa
open Go.RowKit
set_option maxHeartbeats 4000000

theorem drawn_then {w w' : World} (h : ∃ n, w' = w.drewN n) (m : Nat) : ∃ n, w'.drewN m = w.drewN n := by
  obtain ⟨n, rfl⟩ := h
  exact ⟨_, World.drewN_drewN ..⟩

theorem ref_ints (A B : Option Addr) (c d : Nat) (b : Zn) (xs ys : List Int) (w : World) (hx : I64.C 3 b w A xs) (hy : I64.C 3 b w B ys) :
   Calls Try.prog 37 #[.slice A xs.length c, .slice B ys.length d] w fun e w' => e = .returned (.bool (sameB xs ys)) ∧ ∃ n, w' = w.drewN n := by
  have hbx := hx.1
  have hby := hy.1
  by_cases hl : xs.length = ys.length
  · have hl' : ((xs.length : Int) != (ys.length : Int)) = false := by simp [hl]
    have HL := Lib.hid hl
    clear hl
    go_enter Try.func37, Try.ntmps37
    go_wp2
    go_loopw [5] (fun i wr => ∃ k : Nat, k ≤ xs.length ∧ i = .int .i64 k ∧ Hid (xs.take k = ys.take k) ∧ ∃ n, wr = w.drewN n) (fun i _ => xs.length - (intOf i).toNat)
    case atStart => exact ⟨0, Nat.zero_le _, rfl, by simp [Hid], 0, rfl⟩
    case round =>
      obtain ⟨k, hk, rfl, ht, n, rfl⟩ := hrel
      by_cases hlt : k < xs.length
      · have hlt' : k < ys.length := by rw [← HL.out]; exact hlt
        obtain ⟨g, o, rfl, _, hcx, _⟩ := C_int hx hlt
        obtain ⟨g', o', rfl, _, hcy, _⟩ := C_int hy hlt'
        generalize hX : xs.getD k 0 = X at hcx
        generalize hY : ys.getD k 0 = Y at hcy
        have HX := Lib.hid hX
        have HY := Lib.hid hY
        clear hX hY
        by_cases hXY : X = Y
        · subst hXY
          go_wp2_with fail
          go_quiet (fail)
          go_wp2
          all_goals
            go_roundw
            case rel => exact ⟨k + 1, by omega, by go_num, eq_step 0 ht.out hlt hlt' (HX.out.trans HY.out.symm), _, rfl⟩
            case measure => simp [intOf]; omega
        · have hne : (X != Y) = true := by simp [hXY]
          have HN := Lib.hid hXY
          clear hXY
          go_wp2_with fail
          go_quiet (fail)
          go_wp2
          go_ret
          refine ⟨?_, _, World.drewN_drewN ..⟩
          have : xs ≠ ys := eq_not (i := k) 0 (by rw [HX.out, HY.out]; exact HN.out)
          simp [sameB, this]
      · obtain rfl : k = xs.length := by omega
        go_wp2
        go_ret
        have : xs = ys := eq_end HL.out ht.out
        exact ⟨by simp [sameB, this], n, rfl⟩
  · have hl' : ((xs.length : Int) != (ys.length : Int)) = true := by simp; omega
    have hne : xs ≠ ys := fun e => hl (by rw [e])
    have HN := Lib.hid hne
    clear hne hl
    go_enter Try.func37, Try.ntmps37
    go_wp2
    go_ret
    exact ⟨by simp [sameB, HN.out], 0, rfl⟩

theorem ref_steps (A B : Option Addr) (c d : Nat) (b : Zn) (xs ys : List (List Int)) (w : World) (hx : (Kd.sl 3 I64).C 30 b w A xs) (hy : (Kd.sl 3 I64).C 30 b w B ys) :
   Calls Try.prog 39 #[.slice A xs.length c, .slice B ys.length d] w fun e w' => e = .returned (.bool (sameB xs ys)) ∧ ∃ n, w' = w.drewN n := by
  have hbx := hx.1
  have hby := hy.1
  by_cases hl : xs.length = ys.length
  · have hl' : ((xs.length : Int) != (ys.length : Int)) = false := by simp [hl]
    have HL := Lib.hid hl
    clear hl
    go_enter Try.func39, Try.ntmps39
    go_wp2
    go_loopw [5] (fun i wr => ∃ k : Nat, k ≤ xs.length ∧ i = .int .i64 k ∧ Hid (xs.take k = ys.take k) ∧ ∃ n, wr = w.drewN n) (fun i _ => xs.length - (intOf i).toNat)
    case atStart => exact ⟨0, Nat.zero_le _, rfl, by simp [Hid], 0, rfl⟩
    case round =>
      obtain ⟨k, hk, rfl, ht, hq⟩ := hrel
      have hB := below_of_drawn hq
      have HQ := Lib.hid hq
      clear hq
      by_cases hlt : k < xs.length
      · have hlt' : k < ys.length := by rw [← HL.out]; exact hlt
        obtain ⟨g, o, A0, c0, rfl, _, hcx, _, _, hC⟩ := C_sl (Kd.C_below hx hB) hlt
        obtain ⟨g', o', A1, c1, rfl, _, hcy, _, _, hC'⟩ := C_sl (Kd.C_below hy hB) hlt'
        generalize hX : xs.getD k [] = X at hcx hC
        generalize hY : ys.getD k [] = Y at hcy hC'
        have HX := Lib.hid hX
        have HY := Lib.hid hY
        clear hX hY
        have key := fun m => ref_ints A0 A1 c0 c1 b X Y (wr.drewN m) (Kd.C_below hC (by repeat (first | with_reducible exact Below.refl _ _ | with_reducible assumption | with_reducible refine Below.drew ?_ | with_reducible refine below_drewN ?_ _ | (with_reducible refine Below.alloc ?_ ?_ _; rotate_left 1; focus (first | (simp; done) | (simp; omega) | omega)) | (with_reducible refine Below.setCell ?_ ?_ _; rotate_left 1; focus (first | (simp; done) | (simp; omega) | omega))))) (Kd.C_below hC' (by repeat (first | with_reducible exact Below.refl _ _ | with_reducible assumption | with_reducible refine Below.drew ?_ | with_reducible refine below_drewN ?_ _ | (with_reducible refine Below.alloc ?_ ?_ _; rotate_left 1; focus (first | (simp; done) | (simp; omega) | omega)) | (with_reducible refine Below.setCell ?_ ?_ _; rotate_left 1; focus (first | (simp; done) | (simp; omega) | omega)))))
        have KEY := Lib.hid key
        clear key hC hC'
        by_cases hXY : X = Y
        · have hd := sameB_yes hXY
          have HN := Lib.hid hXY
          clear hXY
          go_wp2_with fail
          go_quiet ((go_at_call 37; refine Calls.quiet_of (KEY.out _)))
          go_wp2
          all_goals
            go_roundw
            case rel => exact ⟨k + 1, by omega, by go_num, eq_step [] ht.out hlt hlt' (HX.out.trans (HN.out.trans HY.out.symm)), drawn_then HQ.out _⟩
            case measure => simp [intOf]; omega
        · have hd := sameB_no hXY
          have HN := Lib.hid hXY
          clear hXY
          go_wp2_with fail
          go_quiet ((go_at_call 37; refine Calls.quiet_of (KEY.out _)))
          go_wp2
          go_ret
          refine ⟨?_, drawn_then HQ.out _⟩
          have : xs ≠ ys := eq_not (i := k) [] (by rw [HX.out, HY.out]; exact HN.out)
          simp [sameB, this]
      · obtain rfl : k = xs.length := by omega
        go_wp2
        go_ret
        have : xs = ys := eq_end HL.out ht.out
        exact ⟨by simp [sameB, this], HQ.out⟩
  · have hl' : ((xs.length : Int) != (ys.length : Int)) = true := by simp; omega
    have hne : xs ≠ ys := fun e => hl (by rw [e])
    have HN := Lib.hid hne
    clear hne hl
    go_enter Try.func39, Try.ntmps39
    go_wp2
    go_ret
    exact ⟨by simp [sameB, HN.out], 0, rfl⟩

theorem ref_secs (A B : Option Addr) (c d : Nat) (b : Zn) (xs ys : List (List Sec)) (w : World) (hx : (Kd.sl 57 kSec).C 50 b w A xs) (hy : (Kd.sl 57 kSec).C 50 b w B ys) :
   Calls Try.prog 38 #[.slice A xs.length c, .slice B ys.length d] w fun e w' => e = .returned (.bool (sameB xs ys)) ∧ Below w.heap.size w w' := by
  have hbx := hx.1
  have hby := hy.1
  have hu := Try.underlying57
  have hg := guard_sec
  have hs := same_sec
  by_cases hl : xs.length = ys.length
  · have hl' : ((xs.length : Int) != (ys.length : Int)) = false := by simp [hl]
    have HL := Lib.hid hl
    clear hl
    go_enter Try.func38, Try.ntmps38
    go_wp2
    go_loopw [5] (fun i wr => ∃ k : Nat, k ≤ xs.length ∧ i = .int .i64 k ∧ Hid (xs.take k = ys.take k) ∧ Below w.heap.size w wr) (fun i _ => xs.length - (intOf i).toNat)
    case atStart => exact ⟨0, Nat.zero_le _, rfl, by simp [Hid], Below.refl _ _⟩
    case round =>
      obtain ⟨k, hk, rfl, ht, hB⟩ := hrel
      by_cases hlt : k < xs.length
      · have hlt' : k < ys.length := by rw [← HL.out]; exact hlt
        obtain ⟨g, o, A0, c0, rfl, _, hcx, _, _, hC⟩ := C_sl (Kd.C_below hx hB) hlt
        obtain ⟨g', o', A1, c1, rfl, _, hcy, _, _, hC'⟩ := C_sl (Kd.C_below hy hB) hlt'
        generalize hX : xs.getD k [] = X at hcx hC
        generalize hY : ys.getD k [] = Y at hcy hC'
        have HX := Lib.hid hX
        have HY := Lib.hid hY
        clear hX hY
        have hbX := hC.1
        have hbY := hC'.1
        by_cases hm : X.length = Y.length
        · have hm' : ((X.length : Int) != (Y.length : Int)) = false := by simp [hm]
          have HM := Lib.hid hm
          clear hm
          go_wp2_with fail
          go_quiet (fail)
          go_wp2
          go_loopw [6] (fun j wi => ∃ q : Nat, q ≤ X.length ∧ j = .int .i64 q ∧ Hid (X.take q = Y.take q) ∧ ∃ n, wi = wr.drewN n) (fun j _ => X.length - (intOf j).toNat)
          case atStart => exact ⟨0, Nat.zero_le _, rfl, by simp [Hid], _, rfl⟩
          case round =>
            obtain ⟨q, hq, rfl, hu', n, rfl⟩ := hrel
            by_cases hlq : q < X.length
            · have hlq' : q < Y.length := by rw [← HM.out]; exact hlq
              obtain ⟨g2, o2, cs, rfl, _, hK, hcx2⟩ := Kd.C_at hC default hlq
              obtain ⟨g3, o3, cs', rfl, _, hK', hcy2⟩ := Kd.C_at hC' default hlq'
              obtain ⟨rfl, _, _⟩ := K_sec.1 hK
              obtain ⟨rfl, _, _⟩ := K_sec.1 hK'
              generalize hP : X.getD q default = P at hcx2
              generalize hQ : Y.getD q default = Q at hcy2
              obtain ⟨x0, x1⟩ := P
              obtain ⟨y0, y1⟩ := Q
              have cx0 := hcx2 0 _ rfl
              have cx1 := hcx2 1 _ rfl
              have cy0 := hcy2 0 _ rfl
              have cy1 := hcy2 1 _ rfl
              simp only [show kSec.sz = 2 from rfl, Nat.add_zero, ← Nat.add_assoc] at cx0 cx1 cy0 cy1
              have HP := Lib.hid hP
              have HQ := Lib.hid hQ
              clear hP hQ hcx2 hcy2 hK hK'
              by_cases hXY : (⟨x0, x1⟩ : Sec) = ⟨y0, y1⟩
              · have hd : sameB (⟨x0, x1⟩ : Sec) ⟨y0, y1⟩ = true := sameB_yes hXY
                have HN := Lib.hid hXY
                clear hXY
                go_wp2_with fail
                go_quiet (fail)
                go_wp2
                all_goals
                  go_roundw
                  case rel => exact ⟨q + 1, by omega, by go_num, eq_step default hu'.out hlq hlq' (HP.out.trans (HN.out.trans HQ.out.symm)), _, rfl⟩
                  case measure => simp [intOf]; omega
              · have hd : sameB (⟨x0, x1⟩ : Sec) ⟨y0, y1⟩ = false := sameB_no hXY
                have HN := Lib.hid hXY
                clear hXY
                go_wp2_with fail
                go_quiet (fail)
                go_wp2
                go_ret
                refine ⟨?_, (by repeat (first | with_reducible exact Below.refl _ _ | with_reducible assumption | with_reducible refine Below.drew ?_ | with_reducible refine below_drewN ?_ _ | (with_reducible refine Below.alloc ?_ ?_ _; rotate_left 1; focus (first | (simp; done) | (simp; omega) | omega)) | (with_reducible refine Below.setCell ?_ ?_ _; rotate_left 1; focus (first | (simp; done) | (simp; omega) | omega))))⟩
                have h1 : X ≠ Y := eq_not (i := q) default (by rw [HP.out, HQ.out]; exact HN.out)
                have : xs ≠ ys := eq_not (i := k) [] (by rw [HX.out, HY.out]; exact h1)
                simp [sameB, this]
            · obtain rfl : q = X.length := by omega
              have h1 : X = Y := eq_end HM.out hu'.out
              have H1 := Lib.hid h1
              clear h1
              go_wp2
              all_goals
                go_roundw
                case rel => exact ⟨k + 1, by omega, by go_num, eq_step [] ht.out hlt hlt' (HX.out.trans (H1.out.trans HY.out.symm)), (by repeat (first | with_reducible exact Below.refl _ _ | with_reducible assumption | with_reducible refine Below.drew ?_ | with_reducible refine below_drewN ?_ _ | (with_reducible refine Below.alloc ?_ ?_ _; rotate_left 1; focus (first | (simp; done) | (simp; omega) | omega)) | (with_reducible refine Below.setCell ?_ ?_ _; rotate_left 1; focus (first | (simp; done) | (simp; omega) | omega))))⟩
                case measure => simp [intOf]; omega
        · have hm' : ((X.length : Int) != (Y.length : Int)) = true := by simp; omega
          have h1 : X ≠ Y := fun e => hm (by rw [e])
          have H1 := Lib.hid h1
          clear h1 hm
          go_wp2_with fail
          go_quiet (fail)
          go_wp2
          go_ret
          refine ⟨?_, (by repeat (first | with_reducible exact Below.refl _ _ | with_reducible assumption | with_reducible refine Below.drew ?_ | with_reducible refine below_drewN ?_ _ | (with_reducible refine Below.alloc ?_ ?_ _; rotate_left 1; focus (first | (simp; done) | (simp; omega) | omega)) | (with_reducible refine Below.setCell ?_ ?_ _; rotate_left 1; focus (first | (simp; done) | (simp; omega) | omega))))⟩
          have : xs ≠ ys := eq_not (i := k) [] (by rw [HX.out, HY.out]; exact H1.out)
          simp [sameB, this]
      · obtain rfl : k = xs.length := by omega
        go_wp2
        go_ret
        have : xs = ys := eq_end HL.out ht.out
        exact ⟨by simp [sameB, this], hB⟩
  · have hl' : ((xs.length : Int) != (ys.length : Int)) = true := by simp; omega
    have hne : xs ≠ ys := fun e => hl (by rw [e])
    have HN := Lib.hid hne
    clear hne hl
    go_enter Try.func38, Try.ntmps38
    go_wp2
    go_ret
    exact ⟨by simp [sameB, HN.out], Below.refl _ _⟩

theorem sameB_iff {α : Type} [DecidableEq α] {x y : α} : sameB x y = true ↔ x = y := decide_eq_true_iff
set_option maxRecDepth 100000 in
theorem ref_tns (A B : Option Addr) (c d : Nat) (b : Zn) (xs ys : List (List Filt)) (w : World) (hx : (Kd.sl 53 kFilt).C 51 b w A xs) (hy : (Kd.sl 53 kFilt).C 51 b w B ys) :
   Calls Try.prog 40 #[.slice A xs.length c, .slice B ys.length d] w fun e w' => e = .returned (.bool (sameB xs ys)) ∧ Below w.heap.size w w' := by
  have hbx := hx.1
  have hby := hy.1
  have hu := Try.underlying53
  by_cases hl : xs.length = ys.length
  · have hl' : ((xs.length : Int) != (ys.length : Int)) = false := by simp [hl]
    have HL := Lib.hid hl
    clear hl
    go_enter Try.func40, Try.ntmps40
    go_wp2
    go_loopw [5] (fun i wr => ∃ k : Nat, k ≤ xs.length ∧ i = .int .i64 k ∧ Hid (xs.take k = ys.take k) ∧ Below w.heap.size w wr) (fun i _ => xs.length - (intOf i).toNat)
    case atStart => exact ⟨0, Nat.zero_le _, rfl, by simp [Hid], Below.refl _ _⟩
    case round =>
      obtain ⟨k, hk, rfl, ht, hB⟩ := hrel
      by_cases hlt : k < xs.length
      · have hlt' : k < ys.length := by rw [← HL.out]; exact hlt
        obtain ⟨g, o, A0, c0, rfl, hgx, hcx, _, _, hC⟩ := C_sl (Kd.C_below hx hB) hlt
        obtain ⟨g', o', A1, c1, rfl, hgy, hcy, _, _, hC'⟩ := C_sl (Kd.C_below hy hB) hlt'
        generalize hX : xs.getD k [] = X at hcx hC
        generalize hY : ys.getD k [] = Y at hcy hC'
        have HX := Lib.hid hX
        have HY := Lib.hid hY
        clear hX hY
        have hbX := hC.1
        have hbY := hC'.1
        by_cases hm : X.length = Y.length
        · have hm' : ((X.length : Int) != (Y.length : Int)) = false := by simp [hm]
          have HM := Lib.hid hm
          clear hm
          go_wp2_with fail
          go_quiet (fail)
          go_wp2
          go_loopw [6, 7, 8] (fun j _ _ wi => ∃ q : Nat, q ≤ X.length ∧ j = .int .i64 q ∧ Hid (X.take q = Y.take q) ∧ Below wr.heap.size wr wi) (fun j _ _ _ => X.length - (intOf j).toNat)
          case atStart => exact ⟨0, Nat.zero_le _, rfl, by simp [Hid], (by repeat (first | with_reducible exact Below.refl _ _ | with_reducible assumption | with_reducible refine Below.drew ?_ | with_reducible refine below_drewN ?_ _ | (with_reducible refine Below.alloc ?_ ?_ _; rotate_left 1; focus (first | (simp; done) | (simp; omega) | omega)) | (with_reducible refine Below.setCell ?_ ?_ _; rotate_left 1; focus (first | (simp; done) | (simp; omega) | omega))))⟩
          case round =>
            obtain ⟨q, hq, rfl, hu', hBi⟩ := hrel
            have hcx' := hBi.cell (p := ⟨g, o + k, none⟩) hgx
            have hcy' := hBi.cell (p := ⟨g', o' + k, none⟩) hgy
            have hsi := hBi.size
            have hgx' := Nat.lt_of_lt_of_le hgx hBi.size
            have hgy' := Nat.lt_of_lt_of_le hgy hBi.size
            rw [hcx] at hcx'
            rw [hcy] at hcy'
            by_cases hlq : q < X.length
            · have hlq' : q < Y.length := by rw [← HM.out]; exact hlq
              obtain ⟨g2, o2, cs, rfl, hl2, hK, hcx2⟩ := Kd.C_at (Kd.C_below hC hBi) default hlq
              obtain ⟨g3, o3, cs', rfl, hl3, hK', hcy2⟩ := Kd.C_at (Kd.C_below hC' hBi) default hlq'
              generalize hP : X.getD q default = P at hK
              generalize hQ : Y.getD q default = Q at hK'
              obtain ⟨B0, d0, rfl, _, _, _, _, hD⟩ := K_filt.1 hK
              obtain ⟨B1, d1, rfl, _, _, _, _, hD'⟩ := K_filt.1 hK'
              have HP := Lib.hid hP
              have HQ := Lib.hid hQ
              clear hP hQ hK hK'
              obtain ⟨x0, x1, x2, x3, x4⟩ := P
              obtain ⟨y0, y1, y2, y3, y4⟩ := Q
              have cx0 := hcx2 0 _ rfl
              have cx1 := hcx2 1 _ rfl
              have cx2 := hcx2 2 _ rfl
              have cx3 := hcx2 3 _ rfl
              have cx4 := hcx2 4 _ rfl
              have cy0 := hcy2 0 _ rfl
              have cy1 := hcy2 1 _ rfl
              have cy2 := hcy2 2 _ rfl
              have cy3 := hcy2 3 _ rfl
              have cy4 := hcy2 4 _ rfl
              simp only [show kFilt.sz = 5 from rfl, Nat.add_zero, ← Nat.add_assoc] at cx0 cx1 cx2 cx3 cx4 cy0 cy1 cy2 cy3 cy4
              dsimp only at hD hD'
              have key := fun W hW => ref_ints B0 B1 d0 d1 b x4 y4 W (Kd.C_below hD hW) (Kd.C_below hD' hW)
              have KEY := Lib.hid key
              clear key hD hD' hcx2 hcy2 hcx hcy
              by_cases hXY : (⟨x0, x1, x2, x3, x4⟩ : Filt) = ⟨y0, y1, y2, y3, y4⟩
              · simp only [Filt.mk.injEq] at hXY
                obtain ⟨rfl, rfl, rfl, rfl, rfl⟩ := hXY
                have hd : sameB x4 x4 = true := sameB_yes rfl
                go_wp2_with (go_at_call 37; refine (KEY.out _ (by repeat (first | with_reducible exact Below.refl _ _ | with_reducible assumption | with_reducible refine Below.drew ?_ | with_reducible refine below_drewN ?_ _ | (with_reducible refine Below.alloc ?_ ?_ _; rotate_left 1; focus (first | (simp; done) | (simp; omega) | omega)) | (with_reducible refine Below.setCell ?_ ?_ _; rotate_left 1; focus (first | (simp; done) | (simp; omega) | omega))))).mono ?_; rintro e w' ⟨rfl, n, rfl⟩)
                all_goals
                  go_roundw
                  case rel => exact ⟨q + 1, by omega, by go_num, eq_step default hu'.out hlq hlq' (HP.out.trans HQ.out.symm), (by repeat (first | with_reducible exact Below.refl _ _ | with_reducible assumption | with_reducible refine Below.drew ?_ | with_reducible refine below_drewN ?_ _ | (with_reducible refine Below.alloc ?_ ?_ _; rotate_left 1; focus (first | (simp; done) | (simp; omega) | omega)) | (with_reducible refine Below.setCell ?_ ?_ _; rotate_left 1; focus (first | (simp; done) | (simp; omega) | omega))))⟩
                  case measure => simp [intOf]; omega
              · have HN := Lib.hid hXY
                clear hXY
                go_wp2_with (go_at_call 37; refine (KEY.out _ (by repeat (first | with_reducible exact Below.refl _ _ | with_reducible assumption | with_reducible refine Below.drew ?_ | with_reducible refine below_drewN ?_ _ | (with_reducible refine Below.alloc ?_ ?_ _; rotate_left 1; focus (first | (simp; done) | (simp; omega) | omega)) | (with_reducible refine Below.setCell ?_ ?_ _; rotate_left 1; focus (first | (simp; done) | (simp; omega) | omega))))).mono ?_; rintro e w' ⟨rfl, n, rfl⟩)
                all_goals first
                  | (go_ret
                     refine ⟨?_, below_then hB (by repeat (first | with_reducible exact Below.refl _ _ | with_reducible assumption | with_reducible refine Below.drew ?_ | with_reducible refine below_drewN ?_ _ | (with_reducible refine Below.alloc ?_ ?_ _; rotate_left 1; focus (first | (simp; done) | (simp; omega) | omega)) | (with_reducible refine Below.setCell ?_ ?_ _; rotate_left 1; focus (first | (simp; done) | (simp; omega) | omega))))⟩
                     have h1 : X ≠ Y := eq_not (i := q) default (by rw [HP.out, HQ.out]; exact HN.out)
                     have : xs ≠ ys := eq_not (i := k) [] (by rw [HX.out, HY.out]; exact h1)
                     simp [sameB, this])
                  | (exfalso
                     have h4 : x4 = y4 := sameB_iff.1 (by simpa using (show (!sameB x4 y4) = false by assumption))
                     refine HN.out ?_
                     simp only [Filt.mk.injEq]
                     exact ⟨by assumption, by assumption, by assumption, by assumption, h4⟩)
            · obtain rfl : q = X.length := by omega
              have h1 : X = Y := eq_end HM.out hu'.out
              have H1 := Lib.hid h1
              clear h1
              go_wp2
              all_goals
                go_roundw
                case rel => exact ⟨k + 1, by omega, by go_num, eq_step [] ht.out hlt hlt' (HX.out.trans (H1.out.trans HY.out.symm)), below_then hB hBi⟩
                case measure => simp [intOf]; omega
        · have hm' : ((X.length : Int) != (Y.length : Int)) = true := by simp; omega
          have h1 : X ≠ Y := fun e => hm (by rw [e])
          have H1 := Lib.hid h1
          clear h1 hm
          go_wp2_with fail
          go_quiet (fail)
          go_wp2
          go_ret
          refine ⟨?_, (by repeat (first | with_reducible exact Below.refl _ _ | with_reducible assumption | with_reducible refine Below.drew ?_ | with_reducible refine below_drewN ?_ _ | (with_reducible refine Below.alloc ?_ ?_ _; rotate_left 1; focus (first | (simp; done) | (simp; omega) | omega)) | (with_reducible refine Below.setCell ?_ ?_ _; rotate_left 1; focus (first | (simp; done) | (simp; omega) | omega))))⟩
          have : xs ≠ ys := eq_not (i := k) [] (by rw [HX.out, HY.out]; exact H1.out)
          simp [sameB, this]
      · obtain rfl : k = xs.length := by omega
        go_wp2
        go_ret
        have : xs = ys := eq_end HL.out ht.out
        exact ⟨by simp [sameB, this], hB⟩
  · have hl' : ((xs.length : Int) != (ys.length : Int)) = true := by simp; omega
    have hne : xs ≠ ys := fun e => hl (by rw [e])
    have HN := Lib.hid hne
    clear hne hl
    go_enter Try.func40, Try.ntmps40
    go_wp2
    go_ret
    exact ⟨by simp [sameB, HN.out], Below.refl _ _⟩

theorem ref_info (x y : Inf) (cs ds : List Value) (b : Zn) (w : World) (hx : kInf.K b w x cs) (hy : kInf.K b w y ds) :
    Calls Try.prog 36 #[.agg cs.toArray, .agg ds.toArray] w fun e w' => e = .returned (.bool (sameB x y)) ∧ Below w.heap.size w w' := by
  obtain ⟨A0, c0, rfl, _, _, _, _, _, hC⟩ := K_inf.1 hx
  obtain ⟨A1, c1, rfl, _, _, _, _, _, hC'⟩ := K_inf.1 hy
  obtain ⟨x0, x1, x2, x4⟩ := x
  obtain ⟨y0, y1, y2, y4⟩ := y
  have hu := Try.underlying32
  dsimp only at hC hC' 
  clear hx hy
  have key := fun W hW => ref_ints A0 A1 c0 c1 b x4 y4 W (Kd.C_below hC hW) (Kd.C_below hC' hW)
  have KEY := Lib.hid key
  clear key hC hC'
  go_enter Try.func36, Try.ntmps36
  go_wp2_with (go_at_call 37; refine (KEY.out _ (by repeat (first | with_reducible exact Below.refl _ _ | with_reducible assumption | with_reducible refine Below.drew ?_ | with_reducible refine below_drewN ?_ _ | (with_reducible refine Below.alloc ?_ ?_ _; rotate_left 1; focus (first | (simp; done) | (simp; omega) | omega)) | (with_reducible refine Below.setCell ?_ ?_ _; rotate_left 1; focus (first | (simp; done) | (simp; omega) | omega))))).mono ?_; rintro e w' ⟨rfl, n, rfl⟩)
  all_goals
    go_ret
    refine ⟨?_, (by repeat (first | with_reducible exact Below.refl _ _ | with_reducible assumption | with_reducible refine Below.drew ?_ | with_reducible refine below_drewN ?_ _ | (with_reducible refine Below.alloc ?_ ?_ _; rotate_left 1; focus (first | (simp; done) | (simp; omega) | omega)) | (with_reducible refine Below.setCell ?_ ?_ _; rotate_left 1; focus (first | (simp; done) | (simp; omega) | omega))))⟩
    simp [sameB, *]

set_option maxRecDepth 100000 in
theorem ref_chn (x y : Chn) (cs ds : List Value) (b : Zn) (w : World) (hx : kChn.K b w x cs) (hy : kChn.K b w y ds) :
    Calls Try.prog 20 #[.agg cs.toArray, .agg ds.toArray] w fun e w' => e = .returned (.bool (sameB x y)) ∧ Below w.heap.size w w' := by
  obtain ⟨A0, c0, A1, c1, A2, c2, A3, c3, A4, c4, rfl, _, ⟨r1, r2, r3, r4, r5, hG⟩, ⟨_, _, hS⟩, ⟨_, _, hP⟩, ⟨_, _, hT⟩, ⟨_, _, hL⟩⟩ := K_chn.1 hx
  obtain ⟨B0, d0, B1, d1, B2, d2, B3, d3, B4, d4, rfl, _, ⟨q1, q2, q3, q4, q5, hG'⟩, ⟨_, _, hS'⟩, ⟨_, _, hP'⟩, ⟨_, _, hT'⟩, ⟨_, _, hL'⟩⟩ := K_chn.1 hy
  have hu := Try.underlying37
  have hu2 := Try.underlying32
  have kI := fun W hW => ref_info x.info y.info _ _ b W (K_inf.2 ⟨A0, c0, rfl, r1, r2, r3, r4, r5, Kd.C_below hG hW⟩) (K_inf.2 ⟨B0, d0, rfl, q1, q2, q3, q4, q5, Kd.C_below hG' hW⟩)
  have kL := fun W hW => ref_ints A4 B4 c4 d4 b x.lines y.lines W (Kd.C_below hL hW) (Kd.C_below hL' hW)
  have kS := fun W hW => ref_secs A1 B1 c1 d1 b x.sections y.sections W (Kd.C_below hS hW) (Kd.C_below hS' hW)
  have kP := fun W hW => ref_steps A2 B2 c2 d2 b x.steps y.steps W (Kd.C_below hP hW) (Kd.C_below hP' hW)
  have kT := fun W hW => ref_tns A3 B3 c3 d3 b x.tns y.tns W (Kd.C_below hT hW) (Kd.C_below hT' hW)
  have hfin : sameB x y = (decide (x.gain = y.gain) && sameB x.info y.info && sameB x.lines y.lines && (sameB x.sections y.sections && sameB x.steps y.steps) && sameB x.tns y.tns) := by
    obtain ⟨a1, a2, a3, a4, a5, a6⟩ := x; obtain ⟨b1, b2, b3, b4, b5, b6⟩ := y; simp only [sameB, Chn.mk.injEq, Bool.decide_and]; cases decide (a1 = b1) <;> cases decide (a2 = b2) <;> cases decide (a3 = b3) <;> cases decide (a4 = b4) <;> cases decide (a5 = b5) <;> cases decide (a6 = b6) <;> rfl
  obtain ⟨x0, x1, x2, x3, x4, x5⟩ := x
  obtain ⟨y0, y1, y2, y3, y4, y5⟩ := y
  obtain ⟨x10, x11, x12, x13⟩ := x1
  obtain ⟨y10, y11, y12, y13⟩ := y1
  dsimp only at kI kL kS kP kT hfin
  have KI := Lib.hid kI
  have KL := Lib.hid kL
  have KS := Lib.hid kS
  have KP := Lib.hid kP
  have KT := Lib.hid kT
  have HF := Lib.hid hfin
  clear kI kL kS kP kT hfin hx hy hG hG' hS hS' hP hP' hT hT' hL hL' r1 r2 r3 r4 r5 q1 q2 q3 q4 q5
  go_enter Try.func20, Try.ntmps20
  go_wp2_with (first
   | (go_at_call 36; refine (KI.out _ (by repeat (first | with_reducible exact Below.refl _ _ | with_reducible assumption | with_reducible refine Below.drew ?_ | with_reducible refine below_drewN ?_ _ | (with_reducible refine Below.alloc ?_ ?_ _; rotate_left 1; focus (first | (simp; done) | (simp; omega) | omega)) | (with_reducible refine Below.setCell ?_ ?_ _; rotate_left 1; focus (first | (simp; done) | (simp; omega) | omega))))).mono ?_; rintro e w' ⟨rfl, hB1⟩; obtain ⟨hc, hf⟩ := bcell hB1; have hz := hB1.size; (try simp at hz); have hz0 : w.heap.size < w'.heap.size := (by omega); have hz1 : w.heap.size + 1 < w'.heap.size := (by omega); have hB0 := below_then (w := w) (by repeat (first | with_reducible exact Below.refl _ _ | with_reducible assumption | with_reducible refine Below.drew ?_ | with_reducible refine below_drewN ?_ _ | (with_reducible refine Below.alloc ?_ ?_ _; rotate_left 1; focus (first | (simp; done) | (simp; omega) | omega)) | (with_reducible refine Below.setCell ?_ ?_ _; rotate_left 1; focus (first | (simp; done) | (simp; omega) | omega)))) hB1; clear hB1)
   | (go_at_call 37; refine (KL.out _ (by repeat (first | with_reducible exact Below.refl _ _ | with_reducible assumption | with_reducible refine Below.drew ?_ | with_reducible refine below_drewN ?_ _ | (with_reducible refine Below.alloc ?_ ?_ _; rotate_left 1; focus (first | (simp; done) | (simp; omega) | omega)) | (with_reducible refine Below.setCell ?_ ?_ _; rotate_left 1; focus (first | (simp; done) | (simp; omega) | omega))))).mono ?_; rintro e w' ⟨rfl, hq⟩; have hB1 := below_of_drawn hq; clear hq; obtain ⟨hc, hf⟩ := bcell hB1; have hz := hB1.size; (try simp at hz); have hz0 : w.heap.size < w'.heap.size := (by omega); have hz1 : w.heap.size + 1 < w'.heap.size := (by omega); have hB0 := below_then (w := w) (by repeat (first | with_reducible exact Below.refl _ _ | with_reducible assumption | with_reducible refine Below.drew ?_ | with_reducible refine below_drewN ?_ _ | (with_reducible refine Below.alloc ?_ ?_ _; rotate_left 1; focus (first | (simp; done) | (simp; omega) | omega)) | (with_reducible refine Below.setCell ?_ ?_ _; rotate_left 1; focus (first | (simp; done) | (simp; omega) | omega)))) hB1; clear hB1)
   | (go_at_call 38; refine (KS.out _ (by repeat (first | with_reducible exact Below.refl _ _ | with_reducible assumption | with_reducible refine Below.drew ?_ | with_reducible refine below_drewN ?_ _ | (with_reducible refine Below.alloc ?_ ?_ _; rotate_left 1; focus (first | (simp; done) | (simp; omega) | omega)) | (with_reducible refine Below.setCell ?_ ?_ _; rotate_left 1; focus (first | (simp; done) | (simp; omega) | omega))))).mono ?_; rintro e w' ⟨rfl, hB1⟩; obtain ⟨hc, hf⟩ := bcell hB1; have hz := hB1.size; (try simp at hz); have hz0 : w.heap.size < w'.heap.size := (by omega); have hz1 : w.heap.size + 1 < w'.heap.size := (by omega); have hB0 := below_then (w := w) (by repeat (first | with_reducible exact Below.refl _ _ | with_reducible assumption | with_reducible refine Below.drew ?_ | with_reducible refine below_drewN ?_ _ | (with_reducible refine Below.alloc ?_ ?_ _; rotate_left 1; focus (first | (simp; done) | (simp; omega) | omega)) | (with_reducible refine Below.setCell ?_ ?_ _; rotate_left 1; focus (first | (simp; done) | (simp; omega) | omega)))) hB1; clear hB1)
   | (go_at_call 39; refine (KP.out _ (by repeat (first | with_reducible exact Below.refl _ _ | with_reducible assumption | with_reducible refine Below.drew ?_ | with_reducible refine below_drewN ?_ _ | (with_reducible refine Below.alloc ?_ ?_ _; rotate_left 1; focus (first | (simp; done) | (simp; omega) | omega)) | (with_reducible refine Below.setCell ?_ ?_ _; rotate_left 1; focus (first | (simp; done) | (simp; omega) | omega))))).mono ?_; rintro e w' ⟨rfl, hq⟩; have hB1 := below_of_drawn hq; clear hq; obtain ⟨hc, hf⟩ := bcell hB1; have hz := hB1.size; (try simp at hz); have hz0 : w.heap.size < w'.heap.size := (by omega); have hz1 : w.heap.size + 1 < w'.heap.size := (by omega); have hB0 := below_then (w := w) (by repeat (first | with_reducible exact Below.refl _ _ | with_reducible assumption | with_reducible refine Below.drew ?_ | with_reducible refine below_drewN ?_ _ | (with_reducible refine Below.alloc ?_ ?_ _; rotate_left 1; focus (first | (simp; done) | (simp; omega) | omega)) | (with_reducible refine Below.setCell ?_ ?_ _; rotate_left 1; focus (first | (simp; done) | (simp; omega) | omega)))) hB1; clear hB1)
   | (go_at_call 40; refine (KT.out _ (by repeat (first | with_reducible exact Below.refl _ _ | with_reducible assumption | with_reducible refine Below.drew ?_ | with_reducible refine below_drewN ?_ _ | (with_reducible refine Below.alloc ?_ ?_ _; rotate_left 1; focus (first | (simp; done) | (simp; omega) | omega)) | (with_reducible refine Below.setCell ?_ ?_ _; rotate_left 1; focus (first | (simp; done) | (simp; omega) | omega))))).mono ?_; rintro e w' ⟨rfl, hB1⟩; obtain ⟨hc, hf⟩ := bcell hB1; have hz := hB1.size; (try simp at hz); have hz0 : w.heap.size < w'.heap.size := (by omega); have hz1 : w.heap.size + 1 < w'.heap.size := (by omega); have hB0 := below_then (w := w) (by repeat (first | with_reducible exact Below.refl _ _ | with_reducible assumption | with_reducible refine Below.drew ?_ | with_reducible refine below_drewN ?_ _ | (with_reducible refine Below.alloc ?_ ?_ _; rotate_left 1; focus (first | (simp; done) | (simp; omega) | omega)) | (with_reducible refine Below.setCell ?_ ?_ _; rotate_left 1; focus (first | (simp; done) | (simp; omega) | omega)))) hB1; clear hB1))

  all_goals
    go_ret
    refine ⟨?_, (by repeat (first | with_reducible exact Below.refl _ _ | with_reducible assumption | with_reducible refine Below.drew ?_ | with_reducible refine below_drewN ?_ _ | (with_reducible refine Below.alloc ?_ ?_ _; rotate_left 1; focus (first | (simp; done) | (simp; omega) | omega)) | (with_reducible refine Below.setCell ?_ ?_ _; rotate_left 1; focus (first | (simp; done) | (simp; omega) | omega))))⟩
    rw [HF.out]
    simp [*]

end Go.Proofs.Ytagihamgaidikaa
