/- reedpiperef18.Twin. -/
import Derived.Test.YtagihamgaidikaaRtwin10
import Derived.Deep.DeepCutAuto
set_option linter.unusedVariables false
set_option linter.unusedSimpArgs false
namespace Go.Proofs.Ytagihamgaidikaa
open Go.RowKit
set_option maxHeartbeats 1000000
theorem alloc1_new (w : World) (o : Obj) : (w.alloc o).heap[w.heap.size]? = some o := by show (w.heap.push o)[w.heap.size]? = _; simp
theorem typed_set {w : World} {g e : Nat} (h : ∃ cur, w.heap[g]? = some (.cells cur e (0, 0))) (j : Nat) (u : Value) : ∃ cur, (w.setCell ⟨g, j, none⟩ u).heap[g]? = some (.cells cur e (0, 0)) := by
  obtain ⟨cur, h⟩ := h
  exact ⟨_, heap_setCell_same w g j cur e u h⟩
theorem upto_take1 {α : Type} {xs : List α} {d : α} {k : Nat} (h : k < xs.length) : xs.take k ++ [xs.getD k d] = xs.take (k + 1) := by
  rw [List.take_add_one, List.getD_eq_getElem?_getD, List.getElem?_eq_getElem h]; rfl
theorem upto_take {α : Type} {xs : List (List α)} {d : List α} {k : Nat} (h : k < xs.length) : xs.take k ++ [xs.getD k d] = xs.take (k + 1) := by
  rw [List.take_add_one, List.getD_eq_getElem?_getD, List.getElem?_eq_getElem h]; rfl
theorem grown_cell {α : Type} {d : Kd α} {W w2 : World} {v : Value} {e base : Nat} {b : Zn} {xs : List α} (hg : W.grownBy w2 v.ownBlock) (ho : d.O e b base W v xs) {k : Nat} (hk : k < W.heap.size) (hne : k < base ∨ ∃ t, t ≠ e ∧ ∃ cur, W.heap[k]? = some (.cells cur t (0, 0))) :
    w2.heap[k]? = W.heap[k]? := by
  refine hg.block k hk (fun he => ?_)
  obtain ⟨cs, ho, _⟩ := ho
  rcases ho.2 with ⟨rfl, _⟩ | ⟨g, cap, cur, rfl, hbg, hh, _⟩
  · simp [Value.ownBlock] at he
  · simp only [Value.ownBlock, Option.some.injEq] at he
    subst he
    rcases hne with h | ⟨t, hte, cur', h⟩
    · omega
    · rw [hh] at h
      simp only [Option.some.injEq, Obj.cells.injEq] at h
      exact hte h.2.1.symm
theorem same_cell {W w2 : World} {k : Nat} (h : w2.heap[k]? = W.heap[k]?) : (∀ o, w2.cell? ⟨k, o, none⟩ = W.cell? ⟨k, o, none⟩) ∧ (∀ o, w2.frozen? ⟨k, o, none⟩ = W.frozen? ⟨k, o, none⟩) :=
  ⟨fun o => World.cell?_of_block (a := ⟨k, o, none⟩) h, fun o => World.frozen?_of_block (a := ⟨k, o, none⟩) h⟩
set_option maxRecDepth 100000 in
theorem ref18_twin (x : Chn) (cs : List Value) (b : Zn) (w : World) (hx : kChn.K b w x cs) (hb : b.hi ≤ w.heap.size) (hs : x.Small) :
    Calls Try.prog 21 #[.agg cs.toArray] w fun e w' => ∃ ds, e = .returned (.agg ds.toArray) ∧ kChn.K (Zn.new w) w' x ds ∧ Below w.heap.size w w' := by
  obtain ⟨A0, c0, A1, c1, A2, c2, A3, c3, A4, c4, rfl, r0, ⟨ri0, ri1, ri2, _, hm0, hC0⟩, ⟨_, hm1, hC1⟩, ⟨_, hm2, hC2⟩, ⟨_, hm3, hC3⟩, ⟨_, hm4, hC4⟩⟩ := K_chn.1 hx
  obtain ⟨x0, ⟨i0, i1, i2, xg⟩, xs, xt, xn, xl⟩ := x
  obtain ⟨s0, s1, s2, s3, s4, s5, s6, s7, s8⟩ := hs
  have hu := Try.underlying37
  have hu2 := Try.underlying32
  have hu3 := Try.underlying53
  dsimp only at hC0 hC1 hC2 hC3 hC4 r0 ri0 ri1 ri2 s0 s1 s2 s3 s4 s5 s6 s7 s8
  clear hx
  have KEY0 := Lib.hid fun W' (hW' : Below w.heap.size w W') => ref10_twin ⟨i0, i1, i2, xg⟩ _ b W' (Kd.K_below (K_inf.2 ⟨A0, c0, rfl, ri0, ri1, ri2, ‹_›, hm0, hC0⟩) hW') (Nat.le_trans hb hW'.size) (by dsimp only; omega)
  have HC1 := Lib.hid hC1
  have HC2 := Lib.hid hC2
  have HC3 := Lib.hid hC3
  have HC4 := Lib.hid hC4
  have HS2 := Lib.hid s2
  have HS4 := Lib.hid s4
  have HS6 := Lib.hid s6
  have HS7 := Lib.hid s7
  clear hC0 hC1 hC2 hC3 hC4 s2 s4 s6 s7
  go_enter Try.func21, Try.ntmps21
  go_upto_region 1 with fail
  refine gen (F := fun W => (∀ o, W.frozen? ⟨w.heap.size, o, none⟩ = false) ∧ (∀ o, W.frozen? ⟨w.heap.size + 1, o, none⟩ = false) ∧ (W.cell? ⟨w.heap.size, 0, none⟩ = some (.int .i64 x0) ∧ W.cell? ⟨w.heap.size, 1, none⟩ = some (.int .u8 i0) ∧ W.cell? ⟨w.heap.size, 2, none⟩ = some (.int .u8 i1) ∧ W.cell? ⟨w.heap.size, 3, none⟩ = some (.int .i64 i2) ∧ W.cell? ⟨w.heap.size, 4, none⟩ = some (.slice A0 xg.length c0) ∧ W.cell? ⟨w.heap.size, 5, none⟩ = some (.slice A1 xs.length c1) ∧ W.cell? ⟨w.heap.size, 6, none⟩ = some (.slice A2 xt.length c2) ∧ W.cell? ⟨w.heap.size, 7, none⟩ = some (.slice A3 xn.length c3) ∧ W.cell? ⟨w.heap.size, 8, none⟩ = some (.slice A4 xl.length c4)) ∧ (W.cell? ⟨w.heap.size + 1, 0, none⟩ = some (.int .i64 0) ∧ W.cell? ⟨w.heap.size + 1, 1, none⟩ = some (.int .u8 0) ∧ W.cell? ⟨w.heap.size + 1, 2, none⟩ = some (.int .u8 0) ∧ W.cell? ⟨w.heap.size + 1, 3, none⟩ = some (.int .i64 0) ∧ W.cell? ⟨w.heap.size + 1, 4, none⟩ = some (.slice none 0 0) ∧ W.cell? ⟨w.heap.size + 1, 5, none⟩ = some (.slice none 0 0) ∧ W.cell? ⟨w.heap.size + 1, 6, none⟩ = some (.slice none 0 0) ∧ W.cell? ⟨w.heap.size + 1, 7, none⟩ = some (.slice none 0 0) ∧ W.cell? ⟨w.heap.size + 1, 8, none⟩ = some (.slice none 0 0)) ∧ Hid (W.heap.size = w.heap.size + 2) ∧ Below w.heap.size w W) ⟨?_, ?_, ?_, ?_, ?_, ?_⟩ ?_
  · intro o; simp [go_sem]
  · intro o; simp [go_sem]
  · simp [go_sem]
  · simp [go_sem]
  · exact Lib.hid (by simp)
  · exact (by repeat (first | with_reducible exact Below.refl _ _ | with_reducible assumption | with_reducible refine Below.drew ?_ | with_reducible refine below_drewN ?_ _ | (with_reducible refine Below.alloc ?_ ?_ _; rotate_left 1; focus (first | (simp; done) | (simp; omega) | omega)) | (with_reducible refine Below.setCell ?_ ?_ _; rotate_left 1; focus (first | (simp; done) | (simp; omega) | omega))))
  rintro W ⟨hf1, hf2, ⟨q0, q1, q2, q3, q4, q5, q6, q7, q8⟩, ⟨y0, y1, y2, y3, y4, y5, y6, y7, y8⟩, HN, hBW⟩
  have hn : w.heap.size < W.heap.size := by have := HN.out; omega
  have hn1 : w.heap.size + 1 < W.heap.size := by have := HN.out; omega
  go_cut [3] (fun o wx => ∃ (p : Nat) (B0 : Option Addr) (d0 : Nat), o = .pointer (some ⟨p, 0, none⟩) ∧ w.heap.size + 2 ≤ p ∧ p < wx.heap.size ∧ (wx.cell? ⟨p, 0, none⟩ = some (.int .i64 x0) ∧ wx.cell? ⟨p, 1, none⟩ = some (.int .u8 i0) ∧ wx.cell? ⟨p, 2, none⟩ = some (.int .u8 i1) ∧ wx.cell? ⟨p, 3, none⟩ = some (.int .i64 i2) ∧ wx.cell? ⟨p, 4, none⟩ = some (.slice B0 xg.length d0) ∧ wx.cell? ⟨p, 5, none⟩ = some (.slice none 0 0) ∧ wx.cell? ⟨p, 6, none⟩ = some (.slice none 0 0) ∧ wx.cell? ⟨p, 7, none⟩ = some (.slice none 0 0) ∧ wx.cell? ⟨p, 8, none⟩ = some (.slice none 0 0)) ∧ (∀ o, wx.frozen? ⟨p, o, none⟩ = false) ∧ Hid ((∃ cur, wx.heap[p]? = some (.cells cur 37 (0, 0))) ∧ xg.length ≤ d0 ∧ d0 ≤ maxLen ∧ I64.C 3 ⟨w.heap.size + 2, 0⟩ wx B0 xg) ∧ Below W.heap.size W wx)
  case first =>
    refine wp_region_late (S := fun w' => w'.cell? ⟨w.heap.size, 0, none⟩ = some (.int .i64 x0) ∧ w'.cell? ⟨w.heap.size, 1, none⟩ = some (.int .u8 i0) ∧ w'.cell? ⟨w.heap.size, 2, none⟩ = some (.int .u8 i1) ∧ w'.cell? ⟨w.heap.size, 3, none⟩ = some (.int .i64 i2) ∧ w'.cell? ⟨w.heap.size, 4, none⟩ = some (.slice A0 xg.length c0)) (D := [0, 1, 2, 3, 5]) (by kernel_rfl) rfl (by simp [go_sem, *]) (fun hHeld => ?_)
    (refine late_take (i := 0) (v := ?_) rfl (by kernel_rfl) (by kernel_rfl) (by kernel_rfl) (by kernel_rfl) (fun _ _ _ h => h) (Or.inl ⟨by rfl, ?_⟩) (by assumption) ?_; rotate_left 1; focus (intro w hSw; (try dsimp only at hSw); go_simp; try (with_reducible rfl)); (try simp only [List.getElem_toArray, List.getElem_cons_succ, List.getElem_cons_zero]); (try simp only [Act.put, List.setIfInBounds_toArray, List.set_cons_zero, List.set_cons_succ]))
    (refine late_take (i := 1) (v := ?_) rfl (by kernel_rfl) (by kernel_rfl) (by kernel_rfl) (by kernel_rfl) (fun _ _ _ h => h) (Or.inl ⟨by rfl, ?_⟩) (by assumption) ?_; rotate_left 1; focus (intro w hSw; (try dsimp only at hSw); go_simp; try (with_reducible rfl)); (try simp only [List.getElem_toArray, List.getElem_cons_succ, List.getElem_cons_zero]); (try simp only [Act.put, List.setIfInBounds_toArray, List.set_cons_zero, List.set_cons_succ]))
    (refine late_take (i := 2) (v := ?_) rfl (by kernel_rfl) (by kernel_rfl) (by kernel_rfl) (by kernel_rfl) (fun _ _ _ h => h) (Or.inl ⟨by rfl, ?_⟩) (by assumption) ?_; rotate_left 1; focus (intro w hSw; (try dsimp only at hSw); go_simp; try (with_reducible rfl)); (try simp only [List.getElem_toArray, List.getElem_cons_succ, List.getElem_cons_zero]); (try simp only [Act.put, List.setIfInBounds_toArray, List.set_cons_zero, List.set_cons_succ]))
    (refine late_take (i := 3) (v := ?_) rfl (by kernel_rfl) (by kernel_rfl) (by kernel_rfl) (by kernel_rfl) (fun _ _ _ h => h) (Or.inl ⟨by rfl, ?_⟩) (by assumption) ?_; rotate_left 1; focus (intro w hSw; (try dsimp only at hSw); go_simp; try (with_reducible rfl)); (try simp only [List.getElem_toArray, List.getElem_cons_succ, List.getElem_cons_zero]); (try simp only [Act.put, List.setIfInBounds_toArray, List.set_cons_zero, List.set_cons_succ]))
    refine late_both (i := 4) (j := 6) (by kernel_rfl) rfl rfl (by rfl) (by rfl) (fun K hK => ?_) (fun K hK => ?_)
    · go_simp
      refine (KEY0.out _ hBW.drew).mono ?_
      rintro e w1 ⟨ds, rfl, hI, hB⟩
      obtain ⟨B0, d0, rfl, _, _, _, hg0, hd0, hI⟩ := K_inf.1 hI
      dsimp only at hg0 hI
      have hBT := below_of_drew hB
      have HI := Lib.hid hI
      have HBT := Lib.hid hBT
      have hz0 := hBT.size
      (refine hK.out _ _ ?_ (fun hHeld => ?_); rotate_left 1; (try clear hK); (try clear K); (try simp only [List.getElem_toArray, List.getElem_cons_succ, List.getElem_cons_zero]); (try simp only [Act.put, List.setIfInBounds_toArray, List.set_cons_zero, List.set_cons_succ]); rotate_left 1; focus ((simp only [(box_keep hBT hn).1]; exact hHeld)))
      (refine late_take (i := 5) (v := ?_) rfl (by kernel_rfl) (by kernel_rfl) (by kernel_rfl) (by kernel_rfl) (fun _ _ _ h => h) (Or.inl ⟨by rfl, ?_⟩) (by assumption) ?_; rotate_left 1; focus (intro w hSw; (try dsimp only at hSw); go_simp; try (with_reducible rfl)); (try simp only [List.getElem_toArray, List.getElem_cons_succ, List.getElem_cons_zero]); (try simp only [Act.put, List.setIfInBounds_toArray, List.set_cons_zero, List.set_cons_succ]))
      clear hI hB hBT
      (refine late_only (i := 6) (by kernel_rfl) rfl (by rfl) (fun K hK => ?_); go_simp)
      have hn2 : w.heap.size < w1.heap.size := Nat.lt_of_lt_of_le hn hz0
      (refine hK.out _ _ ?_ (fun hHeld => ?_); rotate_left 1; (try clear hK); (try clear K); (try simp only [List.getElem_toArray, List.getElem_cons_succ, List.getElem_cons_zero]); (try simp only [Act.put, List.setIfInBounds_toArray, List.set_cons_zero, List.set_cons_succ]); rotate_left 1; focus ((simp only [(box_keep ((Below.refl _ w1).alloc (Nat.le_refl _) _) hn2).1]; exact hHeld)))
      (refine late_last (i := 7) (by kernel_rfl) rfl (by rfl) (by kernel_rfl) (fun K hK => ?_); go_simp)
      (refine hK.out _ _ ?_; clear hK; clear K; (try simp only [List.getElem_toArray, List.getElem_cons_succ, List.getElem_cons_zero]); (try simp only [Act.put, List.setIfInBounds_toArray, List.set_cons_zero, List.set_cons_succ]))
      refine late_done (by kernel_rfl) ?_
      go_wp2_with fail
      go_meet
      case rel =>
        exact ⟨w1.heap.size, B0, d0, rfl, by have := HN.out; omega, by simp, ⟨by simp [go_sem], by simp [go_sem], by simp [go_sem], by simp [go_sem], by simp [go_sem], by simp [go_sem], by simp [go_sem], by simp [go_sem], by simp [go_sem]⟩, by intro o; simp [go_sem], Lib.hid ⟨⟨_, alloc1_new _ _⟩, hg0, hd0, Kd.C_mono (Kd.C_below HI.out ((Below.refl _ w1).alloc (Nat.le_refl _) _)) ⟨Nat.le_of_eq HN.out.symm, Nat.le_refl _⟩⟩, HBT.out.trans (((Below.refl _ w1).alloc (Nat.le_refl _) _).mono hz0)⟩
    · go_simp
      (refine hK.out _ _ ?_ (fun hHeld => ?_); rotate_left 1; (try clear hK); (try clear K); (try simp only [List.getElem_toArray, List.getElem_cons_succ, List.getElem_cons_zero]); (try simp only [Act.put, List.setIfInBounds_toArray, List.set_cons_zero, List.set_cons_succ]); rotate_left 1; focus ((simp only [(box_keep (((Below.refl _ W).alloc (Nat.le_refl _) _).drew) hn).1]; exact ⟨q0, q1, q2, q3, q4⟩)))
      (refine late_only (i := 4) (by kernel_rfl) rfl (by rfl) (fun K hK => ?_); go_simp)
      refine (KEY0.out _ ((by repeat (first | with_reducible exact Below.refl _ _ | with_reducible assumption | with_reducible refine Below.drew ?_ | with_reducible refine below_drewN ?_ _ | (with_reducible refine Below.alloc ?_ ?_ _; rotate_left 1; focus (first | (simp; done) | (simp; omega) | omega)) | (with_reducible refine Below.setCell ?_ ?_ _; rotate_left 1; focus (first | (simp; done) | (simp; omega) | omega)))))).mono ?_
      rintro e w1 ⟨ds, rfl, hI, hB⟩
      obtain ⟨B0, d0, rfl, _, _, _, hg0, hd0, hI⟩ := K_inf.1 hI
      dsimp only at hg0 hI
      have HI := Lib.hid hI
      have HB := Lib.hid hB
      have hz0 := hB.size
      have hcn := box_keep hB (n := w.heap.size) (by simp; omega)
      have hcp := box_keep hB (n := W.heap.size) (by simp)
      (refine hK.out _ _ ?_ (fun hHeld => ?_); rotate_left 1; (try clear hK); (try clear K); (try simp only [List.getElem_toArray, List.getElem_cons_succ, List.getElem_cons_zero]); (try simp only [Act.put, List.setIfInBounds_toArray, List.set_cons_zero, List.set_cons_succ]); rotate_left 1; focus ((simp only [hcn.1]; exact hHeld)))
      (refine late_take (i := 5) (v := ?_) rfl (by kernel_rfl) (by kernel_rfl) (by kernel_rfl) (by kernel_rfl) (fun _ _ _ h => h) (Or.inl ⟨by rfl, ?_⟩) (by assumption) ?_; rotate_left 1; focus (intro w hSw; (try dsimp only at hSw); go_simp; try (with_reducible rfl)); (try simp only [List.getElem_toArray, List.getElem_cons_succ, List.getElem_cons_zero]); (try simp only [Act.put, List.setIfInBounds_toArray, List.set_cons_zero, List.set_cons_succ]))
      clear hI hB
      (refine late_last (i := 7) (by kernel_rfl) rfl (by rfl) (by kernel_rfl) (fun K hK => ?_); go_simp)
      (refine hK.out _ _ ?_; clear hK; clear K; (try simp only [List.getElem_toArray, List.getElem_cons_succ, List.getElem_cons_zero]); (try simp only [Act.put, List.setIfInBounds_toArray, List.set_cons_zero, List.set_cons_succ]))
      refine late_done (by kernel_rfl) ?_
      have hB0 : Below W.heap.size W w1 := below_then (w := W) (by repeat (first | with_reducible exact Below.refl _ _ | with_reducible assumption | with_reducible refine Below.drew ?_ | with_reducible refine below_drewN ?_ _ | (with_reducible refine Below.alloc ?_ ?_ _; rotate_left 1; focus (first | (simp; done) | (simp; omega) | omega)) | (with_reducible refine Below.setCell ?_ ?_ _; rotate_left 1; focus (first | (simp; done) | (simp; omega) | omega)))) HB.out
      have hty : ∃ cur, w1.heap[W.heap.size]? = some (.cells cur 37 (0, 0)) := ⟨_, (HB.out.block _ (by simp)).trans (alloc1_new _ _)⟩
      go_wp2_with fail
      go_meet
      case rel =>
        refine ⟨W.heap.size, B0, d0, rfl, by have := HN.out; omega, ?_, ⟨by simp [go_sem, hcp.1], by simp [go_sem, hcp.1], by simp [go_sem, hcp.1], by simp [go_sem, hcp.1], by simp [go_sem, hcp.1], by simp [go_sem, hcp.1], by simp [go_sem, hcp.1], by simp [go_sem, hcp.1], by simp [go_sem, hcp.1]⟩, by intro o; simp [go_sem, hcp.2], Lib.hid ⟨?_, hg0, hd0, Kd.C_hi HI.out ?_ ⟨by have := HN.out; simp; omega, Nat.le_refl _⟩⟩, (by repeat (first | with_reducible exact Below.refl _ _ | with_reducible assumption | with_reducible refine Below.drew ?_ | with_reducible refine below_drewN ?_ _ | (with_reducible refine Below.alloc ?_ ?_ _; rotate_left 1; focus (first | (simp; done) | (simp; omega) | omega)) | (with_reducible refine Below.setCell ?_ ?_ _; rotate_left 1; focus (first | (simp; done) | (simp; omega) | omega))))⟩
        · simp at hz0; simp; omega
        · repeat (first | with_reducible exact hty | with_reducible refine typed_set ?_ _ _)
        · repeat (first | with_reducible refine hi_set ?_ _ _ (by simp) | with_reducible exact hi_refl _ _)
  case rest =>
    obtain ⟨p, B0, d0, rfl, hp1, hp2, ⟨p0, p1, p2, p3, p4, p5, p6, p7, p8⟩, hfp, HP, hBc⟩ := hcut
    have hc8 := ((box_keep hBc hn).1 8).trans q8
    have HC4' := Lib.hid (Kd.C_below HC4.out (below_then hBW hBc))
    have hsc : w.heap.size + 2 ≤ wc.heap.size := by omega
    go_wp2_with (at_builtin; refine append_row (I64) 3 b wc.heap.size rfl _ _ 30 (.int .i64 0) 1 8 rfl Try.underlying30 (by kernel_rfl) rfl rfl (by decide) (by decide) (by decide) (by omega) _ [] xl A4 c4 rfl rfl (Kd.O_nil ..) HC4'.out (Nat.le_refl _) (by simp; omega) ?_; intro v1 w1 h1 h2 h3; clear h3; have hB1 := below_none h2; obtain ⟨B4, d4, rfl, hv1, hv2, hv3⟩ := O_i64 h1 ⟨w.heap.size + 2, 0⟩ (by dsimp only; omega); simp only [List.nil_append] at hv1 hv3; have HO := Lib.hid hv3; have HB1 := Lib.hid hB1; have hcp := box_keep hB1 hp2; simp only [← hcp.1] at p0 p1 p2 p3 p4 p5 p6 p7 p8; simp only [← hcp.2] at hfp; clear h1 h2 hv3 hB1 hcp; simp only [List.nil_append])
    have hty1 : ∃ cur, w1.heap[p]? = some (.cells cur 37 (0, 0)) := by
      obtain ⟨⟨cur, hc⟩, _⟩ := HP.out
      exact ⟨cur, (HB1.out.block _ hp2).trans hc⟩
    refine gen (F := fun W8 => (W8.cell? ⟨p, 0, none⟩ = some (.int .i64 x0) ∧ W8.cell? ⟨p, 1, none⟩ = some (.int .u8 i0) ∧ W8.cell? ⟨p, 2, none⟩ = some (.int .u8 i1) ∧ W8.cell? ⟨p, 3, none⟩ = some (.int .i64 i2) ∧ W8.cell? ⟨p, 4, none⟩ = some (.slice B0 xg.length d0) ∧ W8.cell? ⟨p, 5, none⟩ = some (.slice none 0 0) ∧ W8.cell? ⟨p, 6, none⟩ = some (.slice none 0 0) ∧ W8.cell? ⟨p, 7, none⟩ = some (.slice none 0 0) ∧ W8.cell? ⟨p, 8, none⟩ = some (.slice B4 xl.length d4)) ∧ (∀ o, W8.frozen? ⟨p, o, none⟩ = false) ∧ Hid ((∃ cur, W8.heap[p]? = some (.cells cur 37 (0, 0))) ∧ I64.C 3 ⟨w.heap.size + 2, 0⟩ W8 B0 xg ∧ I64.C 3 ⟨w.heap.size + 2, 0⟩ W8 B4 xl) ∧ Hid (p < W8.heap.size) ∧ Below W.heap.size W W8) ⟨?_, ?_, ?_, ?_, ?_⟩ ?_
    · simp [go_sem, p0, p1, p2, p3, p4, p5, p6, p7, p8]
    · intro o; simp [go_sem, hfp]
    · exact Lib.hid ⟨typed_set hty1 _ _, Kd.C_box (Kd.C_below HP.out.2.2.2 HB1.out) (by decide) (Nat.zero_le _) hty1 (grown_set (grown_refl _ _) _ _), Kd.C_box HO.out (by decide) (Nat.zero_le _) hty1 (grown_set (grown_refl _ _) _ _)⟩
    · exact Lib.hid (by have := HB1.out.size; simp; omega)
    · exact (below_then hBc HB1.out).setCell (p := ⟨p, 8, none⟩) (by have := HN.out; dsimp only; omega) _
    rintro W8 ⟨⟨t0, t1, t2, t3, t4, t5, t6, t7, t8⟩, hf8, HR, HP8, hB8⟩
    have hgr : xg.length ≤ d0 ∧ d0 ≤ maxLen := ⟨HP.out.2.1, HP.out.2.2.1⟩
    clear p0 p1 p2 p3 p4 p5 p6 p7 p8 hfp HP hc8 HC4' hsc HB1 HO hty1 hBc hp2
    have hmx0 : xs.length ≤ 9223372036854775807 := by omega
    go_loopw [4] (fun i wr => ∃ (k : Nat) (v : Value), k ≤ xs.length ∧ i = .int .i64 k ∧ (wr.cell? ⟨p, 0, none⟩ = some (.int .i64 x0) ∧ wr.cell? ⟨p, 1, none⟩ = some (.int .u8 i0) ∧ wr.cell? ⟨p, 2, none⟩ = some (.int .u8 i1) ∧ wr.cell? ⟨p, 3, none⟩ = some (.int .i64 i2) ∧ wr.cell? ⟨p, 4, none⟩ = some (.slice B0 xg.length d0) ∧ wr.cell? ⟨p, 5, none⟩ = some (v) ∧ wr.cell? ⟨p, 6, none⟩ = some (.slice none 0 0) ∧ wr.cell? ⟨p, 7, none⟩ = some (.slice none 0 0) ∧ wr.cell? ⟨p, 8, none⟩ = some (.slice B4 xl.length d4)) ∧ (∀ o, wr.frozen? ⟨p, o, none⟩ = false) ∧ Hid ((∃ cur, wr.heap[p]? = some (.cells cur 37 (0, 0))) ∧ I64.C 3 ⟨w.heap.size + 2, 0⟩ wr B0 xg ∧ I64.C 3 ⟨w.heap.size + 2, 0⟩ wr B4 xl) ∧ Hid (p < wr.heap.size) ∧ Hid ((Kd.sl 57 kSec).O 50 ⟨w.heap.size + 2, 0⟩ (w.heap.size + 2) wr v (xs.take k)) ∧ Below W.heap.size W wr) (fun i _ => xs.length - (intOf i).toNat)
    case atStart => exact ⟨0, .slice none 0 0, Nat.zero_le _, rfl, ⟨t0, t1, t2, t3, t4, t5, t6, t7, t8⟩, hf8, HR, HP8, Lib.hid (Kd.O_nil ..), hB8⟩
    case round =>
      clear t0 t1 t2 t3 t4 t5 t6 t7 t8 hf8 HR HP8 hB8
      obtain ⟨k, v, hk, rfl, ⟨t0, t1, t2, t3, t4, t5, t6, t7, t8⟩, hf8, HR, HP8, HO, hB8⟩ := hrel
      have hcn := (box_keep hB8 hn).1
      have z5 := (hcn 5).trans q5
      clear hcn
      by_cases hlt : k < xs.length
      · obtain ⟨g, o, A', c', hA, hg, hc, hcl, hc2, hC⟩ := C_sl HC1.out hlt
        subst hA
        have hBx := below_then hBW hB8
        have hce := ((box_keep hBx hg).1 (o + k)).trans hc
        have HX := Lib.hid (Kd.C_below hC hBx)
        have hS := HS2.out k
        have HG := Lib.hid (upto_take (d := ([] : List Sec)) hlt)
        clear hc hC
        generalize xs.getD k [] = X at *
        go_wp2_with fail
        have hk0 : (0 : Int) ≤ (k : Int) := by omega
        have hk1 : (k : Int) < (xs.length : Int) := by omega
        refine wp_region_late (S := fun w' => w'.cell? ⟨p, 5, none⟩ = some v ∧ w'.cell? ⟨w.heap.size, 5, none⟩ = some (.slice (some ⟨g, o, none⟩) xs.length c1) ∧ w'.cell? ⟨g, o + k, none⟩ = some (.slice A' X.length c')) (D := [0, 1, 2, 3, 4, 5, 6]) (by kernel_rfl) rfl (by simp [*]) (fun hHeld => ?_)
        (refine late_take (i := 0) (v := ?_) rfl (by kernel_rfl) (by kernel_rfl) (by kernel_rfl) (by kernel_rfl) (fun _ _ _ h => h) (Or.inl ⟨by rfl, ?_⟩) (by assumption) ?_; rotate_left 1; focus (intro w hSw; (try dsimp only at hSw); go_simp; try (with_reducible rfl)); (try simp only [List.getElem_toArray, List.getElem_cons_succ, List.getElem_cons_zero]); (try simp only [Act.put, List.setIfInBounds_toArray, List.set_cons_zero, List.set_cons_succ]))
        (refine late_take (i := 1) (v := ?_) rfl (by kernel_rfl) (by kernel_rfl) (by kernel_rfl) (by kernel_rfl) (fun _ _ _ h => h) (Or.inl ⟨by rfl, ?_⟩) (by assumption) ?_; rotate_left 1; focus (intro w hSw; (try dsimp only at hSw); go_simp; try (with_reducible rfl)); (try simp only [List.getElem_toArray, List.getElem_cons_succ, List.getElem_cons_zero]); (try simp only [Act.put, List.setIfInBounds_toArray, List.set_cons_zero, List.set_cons_succ]))
        (refine late_take (i := 2) (v := ?_) rfl (by kernel_rfl) (by kernel_rfl) (by kernel_rfl) (by kernel_rfl) (fun _ _ _ h => h) (Or.inl ⟨by rfl, ?_⟩) (by assumption) ?_; rotate_left 1; focus (intro w hSw; (try dsimp only at hSw); go_simp; try (with_reducible rfl)); (try simp only [List.getElem_toArray, List.getElem_cons_succ, List.getElem_cons_zero]); (try simp only [Act.put, List.setIfInBounds_toArray, List.set_cons_zero, List.set_cons_succ]))
        (refine late_take (i := 3) (v := ?_) rfl (by kernel_rfl) (by kernel_rfl) (by kernel_rfl) (by kernel_rfl) (fun _ _ _ h => h) (Or.inl ⟨by rfl, ?_⟩) (by assumption) ?_; rotate_left 1; focus (intro w hSw; (try dsimp only at hSw); go_simp; try (with_reducible rfl)); (try simp only [List.getElem_toArray, List.getElem_cons_succ, List.getElem_cons_zero]); (try simp only [Act.put, List.setIfInBounds_toArray, List.set_cons_zero, List.set_cons_succ]))
        (refine late_take (i := 4) (v := ?_) rfl (by kernel_rfl) (by kernel_rfl) (by kernel_rfl) (by kernel_rfl) (fun _ _ _ h => h) (Or.inl ⟨by rfl, ?_⟩) (by assumption) ?_; rotate_left 1; focus (intro w hSw; (try dsimp only at hSw); go_simp; try (with_reducible rfl)); (try simp only [List.getElem_toArray, List.getElem_cons_succ, List.getElem_cons_zero]); (try simp only [Act.put, List.setIfInBounds_toArray, List.set_cons_zero, List.set_cons_succ]))
        (refine late_take (i := 5) (v := ?_) rfl (by kernel_rfl) (by kernel_rfl) (by kernel_rfl) (by kernel_rfl) (fun _ _ _ h => h) (Or.inl ⟨by rfl, ?_⟩) (by assumption) ?_; rotate_left 1; focus (intro w hSw; (try dsimp only at hSw); go_simp; try (with_reducible rfl)); (try simp only [List.getElem_toArray, List.getElem_cons_succ, List.getElem_cons_zero]); (try simp only [Act.put, List.setIfInBounds_toArray, List.set_cons_zero, List.set_cons_succ]))
        (refine late_take (i := 6) (v := ?_) rfl (by kernel_rfl) (by kernel_rfl) (by kernel_rfl) (by kernel_rfl) (fun _ _ _ h => h) (Or.inl ⟨by rfl, ?_⟩) (by assumption) ?_; rotate_left 1; focus (intro w hSw; (try dsimp only at hSw); go_simp; try (with_reducible rfl)); (try simp only [List.getElem_toArray, List.getElem_cons_succ, List.getElem_cons_zero]); (try simp only [Act.put, List.setIfInBounds_toArray, List.set_cons_zero, List.set_cons_succ]))
        have hpr := HP8.out
        have hnr : w.heap.size < wr.heap.size := Nat.lt_of_lt_of_le hn hB8.size
        have hgr' : g < wr.heap.size := Nat.lt_of_lt_of_le hg hBx.size
        have hWr := hB8.size
        have hNr := HN.out
        (refine late_list (i := 7) (by kernel_rfl) rfl (by rfl) (fun K hK => ?_); (try simp only [List.getElem_toArray, List.getElem_cons_succ, List.getElem_cons_zero]))
        have hcC : kSec.C 57 b wr.drew A' X := Kd.C_below HX.out (Below.refl _ _).drew
        have hbb : b.hi ≤ wr.drew.heap.size := by show b.hi ≤ wr.heap.size; omega
        refine append_row kSec 57 b wr.drew.heap.size rfl (.const (.slice none 0 0)) (.tmp 35) 50 (.agg #[.int .i64 0, .int .i64 0]) 2 16 rfl Try.underlying50 (by kernel_rfl) rfl rfl (by decide) (by decide) (by decide) hbb (.slice none 0 0) [] X A' c' ?_ ?_ (Kd.O_nil ..) hcC (Nat.le_refl _) (by simp; omega) ?_
        · rfl
        · kernel_rfl
        clear hcC hbb
        intro v1 w1 h1 h2 _
        change K _ _
        rw [List.nil_append] at h1
        obtain ⟨Au, cu, rfl, hu1, hu2, hu3⟩ := Kd.O_C (b := ⟨w.heap.size + 2, 0⟩) (y := ⟨w.heap.size + 2, 0⟩) (show kSec.O 57 ⟨w.heap.size + 2, 0⟩ wr.drew.heap.size w1 v1 X from h1) (by decide) ⟨Nat.le_refl _, Nat.le_refl _⟩ (by show w.heap.size + 2 ≤ wr.heap.size; omega)
        have hB1 := below_of_drew (below_none h2)
        have hs1 := hB1.size
        (refine hK.out _ _ ?_ (fun hHeld => ?_); rotate_left 1; (try clear hK); (try clear K); (try simp only [List.getElem_toArray, List.getElem_cons_succ, List.getElem_cons_zero]); (try simp only [Act.put, List.setIfInBounds_toArray, List.set_cons_zero, List.set_cons_succ]); rotate_left 1; focus ((simp only [(box_keep hB1 hpr).1, (box_keep hB1 hnr).1, (box_keep hB1 hgr').1]; exact hHeld)))
        have HU := Lib.hid (And.intro hu1 (And.intro hu2 hu3))
        have HB1 := Lib.hid hB1
        have HO1 := Lib.hid (Kd.O_below HO.out hB1)
        have HA := Lib.hid fun (ob : Obj) => ((Below.refl w1.heap.size w1).alloc (Nat.le_refl _) ob)
        clear h1 h2 hu1 hu2 hu3 hB1
        (refine late_only (i := 8) (by kernel_rfl) rfl (by rfl) (fun K hK => ?_); go_simp)
        (refine hK.out _ _ ?_ (fun hHeld => ?_); rotate_left 1; (try clear hK); (try clear K); (try simp only [List.getElem_toArray, List.getElem_cons_succ, List.getElem_cons_zero]); (try simp only [Act.put, List.setIfInBounds_toArray, List.set_cons_zero, List.set_cons_succ]); rotate_left 1; focus ((simp only [(box_keep (HA.out _) (Nat.lt_of_lt_of_le hpr hs1)).1, (box_keep (HA.out _) (Nat.lt_of_lt_of_le hnr hs1)).1, (box_keep (HA.out _) (Nat.lt_of_lt_of_le hgr' hs1)).1]; exact hHeld)))
        (refine late_list (i := 9) (by kernel_rfl) rfl (by rfl) (fun K hK => ?_); (try simp only [List.getElem_toArray, List.getElem_cons_succ, List.getElem_cons_zero]))
        refine append_one (Kd.sl 57 kSec) (W := w1) 50 ⟨w.heap.size + 2, 0⟩ (w.heap.size + 2) rfl (.tmp 30) (.tmp 37) 33 (.slice none 0 0) 1 24 rfl Try.underlying33 (by kernel_rfl) rfl rfl (by decide) (by decide) (by decide) (Nat.zero_le _) v (xs.take k) X [.slice Au X.length cu] ?_ ?_ HO1.out ⟨Au, cu, rfl, HU.out⟩ (by omega) (by simp only [List.length_take]; omega) ?_
        · kernel_rfl
        · kernel_rfl
        intro v2 w2 h3 h4 _
        change K _ _
        rw [HG.out] at h3
        have htp : ∃ cur, w1.heap[p]? = some (.cells cur 37 (0, 0)) := by
          obtain ⟨⟨cur, hc⟩, _⟩ := HR.out
          exact ⟨cur, (HB1.out.block _ hpr).trans hc⟩
        have kp := same_cell (grown_cell h4 HO1.out (Nat.lt_of_lt_of_le hpr hs1) (.inr ⟨37, by decide, htp⟩))
        have kn := same_cell (grown_cell h4 HO1.out (Nat.lt_of_lt_of_le hnr hs1) (.inl (by omega)))
        have kg := same_cell (grown_cell h4 HO1.out (Nat.lt_of_lt_of_le hgr' hs1) (.inl (by omega)))
        (refine hK.out _ _ ?_ (fun hHeld => ?_); rotate_left 1; (try clear hK); (try clear K); (try simp only [List.getElem_toArray, List.getElem_cons_succ, List.getElem_cons_zero]); (try simp only [Act.put, List.setIfInBounds_toArray, List.set_cons_zero, List.set_cons_succ]); rotate_left 1; focus ((simp only [kp.1, kn.1, kg.1]; simpa only [(box_keep (HA.out _) (Nat.lt_of_lt_of_le hpr hs1)).1, (box_keep (HA.out _) (Nat.lt_of_lt_of_le hnr hs1)).1, (box_keep (HA.out _) (Nat.lt_of_lt_of_le hgr' hs1)).1] using hHeld)))
        have kb := box_keep HB1.out hpr
        simp only [← kb.1] at t0 t1 t2 t3 t4 t5 t6 t7 t8
        simp only [← kp.1] at t0 t1 t2 t3 t4 t5 t6 t7 t8
        simp only [← kb.2] at hf8
        simp only [← kp.2] at hf8
        have H3 := Lib.hid h3
        have hty2 : ∃ cur, w2.heap[p]? = some (.cells cur 37 (0, 0)) := by
          obtain ⟨cur, hc⟩ := htp
          exact ⟨cur, (grown_cell h4 HO1.out (Nat.lt_of_lt_of_le hpr hs1) (.inr ⟨37, by decide, cur, hc⟩)).trans hc⟩
        have hsz2 : w1.heap.size ≤ w2.heap.size := h4.size
        have hm4 : ∀ E, 50 ∉ E → ∀ k', (⟨w.heap.size + 2, 0⟩ : Zn).met E w1 k' → w2.heap[k']? = w1.heap[k']? := by
          obtain ⟨cs, ho, _⟩ := HO1.out
          exact fun E hE => Kd.met_own ho hE (Nat.zero_le _) h4
        have HM := Lib.hid hm4
        have HY := Lib.hid hty2
        have hB9 := below_O (below_then hB8 HB1.out) h4 (by omega) HO1.out (by omega)
        clear h3 h4 kb kp kn kg htp hm4 hty2
        obtain ⟨v2a, l2, v2c, rfl⟩ : ∃ a l c, v2 = .slice a l c := by
          obtain ⟨a, c, h, _⟩ := Kd.O_slice H3.out
          exact ⟨a, _, c, h⟩
        (refine late_last (i := 10) (by kernel_rfl) rfl (by rfl) (by kernel_rfl) (fun K hK => ?_); go_simp)
        (refine hK.out _ _ ?_; clear hK; clear K; (try simp only [List.getElem_toArray, List.getElem_cons_succ, List.getElem_cons_zero]); (try simp only [Act.put, List.setIfInBounds_toArray, List.set_cons_zero, List.set_cons_succ]))
        (refine late_last (i := 11) (by kernel_rfl) rfl (by rfl) (by kernel_rfl) (fun K hK => ?_); go_simp)
        (refine hK.out _ _ ?_; clear hK; clear K; (try simp only [List.getElem_toArray, List.getElem_cons_succ, List.getElem_cons_zero]); (try simp only [Act.put, List.setIfInBounds_toArray, List.set_cons_zero, List.set_cons_succ]))
        refine late_done (by kernel_rfl) ?_
        go_wp2_with fail
        go_roundw
        case rel =>
          refine ⟨k + 1, .slice v2a l2 v2c, by omega, by go_num, ⟨by simp [go_sem, t0, t1, t2, t3, t4, t5, t6, t7, t8], by simp [go_sem, t0, t1, t2, t3, t4, t5, t6, t7, t8], by simp [go_sem, t0, t1, t2, t3, t4, t5, t6, t7, t8], by simp [go_sem, t0, t1, t2, t3, t4, t5, t6, t7, t8], by simp [go_sem, t0, t1, t2, t3, t4, t5, t6, t7, t8], by simp [go_sem, t0, t1, t2, t3, t4, t5, t6, t7, t8], by simp [go_sem, t0, t1, t2, t3, t4, t5, t6, t7, t8], by simp [go_sem, t0, t1, t2, t3, t4, t5, t6, t7, t8], by simp [go_sem, t0, t1, t2, t3, t4, t5, t6, t7, t8]⟩, by intro o; simp [go_sem, hf8], Lib.hid ⟨typed_set HY.out _ _, Kd.C_box (Kd.C_chg (Kd.C_below HR.out.2.1 HB1.out) (HM.out _ (by decide))) (by decide) (Nat.zero_le _) HY.out (grown_set (grown_refl _ _) _ _), Kd.C_box (Kd.C_chg (Kd.C_below HR.out.2.2 HB1.out) (HM.out _ (by decide))) (by decide) (Nat.zero_le _) HY.out (grown_set (grown_refl _ _) _ _)⟩, Lib.hid (by simp; omega), Lib.hid (Kd.O_met H3.out (by simp) (fun E hE y hy => met_box (t := 37) (fun h => absurd (hE h) (by decide)) (by omega) HY.out (grown_set (grown_refl _ _) _ _)) (Nat.zero_le _)), hB9.setCell (p := ⟨p, 5, none⟩) (by dsimp only; omega) _⟩
        case measure => simp [intOf]; omega
      · obtain rfl : k = xs.length := by omega
        go_wp2_with fail
        rw [List.take_length] at HO
        obtain ⟨B1, d1, rfl, hg5, hd5, hCn⟩ := Kd.O_C (b := ⟨w.heap.size + 2, 0⟩) (y := ⟨w.heap.size + 2, 0⟩) HO.out (by decide) ⟨Nat.le_refl _, Nat.le_refl _⟩ (Nat.le_refl (w.heap.size + 2))
        have HRn := Lib.hid (show ((∃ cur, wr.heap[p]? = some (.cells cur 37 (0, 0))) ∧ I64.C 3 ⟨w.heap.size + 2, 0⟩ wr B0 xg ∧ I64.C 3 ⟨w.heap.size + 2, 0⟩ wr B4 xl ∧ (Kd.sl 57 kSec).C 50 ⟨w.heap.size + 2, 0⟩ wr B1 xs) from ⟨HR.out.1, HR.out.2.1, HR.out.2.2, hCn⟩)
        clear HR HO hCn z5
        have HR := HRn
        clear HRn
        obtain ⟨W0, h7⟩ : ∃ W0, wr = W0 := ⟨_, rfl⟩
        subst wr
        have hmx1 : xt.length ≤ 9223372036854775807 := by omega
        go_loopw [5] (fun i wr => ∃ (k : Nat) (v : Value), k ≤ xt.length ∧ i = .int .i64 k ∧ (wr.cell? ⟨p, 0, none⟩ = some (.int .i64 x0) ∧ wr.cell? ⟨p, 1, none⟩ = some (.int .u8 i0) ∧ wr.cell? ⟨p, 2, none⟩ = some (.int .u8 i1) ∧ wr.cell? ⟨p, 3, none⟩ = some (.int .i64 i2) ∧ wr.cell? ⟨p, 4, none⟩ = some (.slice B0 xg.length d0) ∧ wr.cell? ⟨p, 5, none⟩ = some (.slice B1 xs.length d1) ∧ wr.cell? ⟨p, 6, none⟩ = some (v) ∧ wr.cell? ⟨p, 7, none⟩ = some (.slice none 0 0) ∧ wr.cell? ⟨p, 8, none⟩ = some (.slice B4 xl.length d4)) ∧ (∀ o, wr.frozen? ⟨p, o, none⟩ = false) ∧ Hid ((∃ cur, wr.heap[p]? = some (.cells cur 37 (0, 0))) ∧ I64.C 3 ⟨w.heap.size + 2, 0⟩ wr B0 xg ∧ I64.C 3 ⟨w.heap.size + 2, 0⟩ wr B4 xl ∧ (Kd.sl 57 kSec).C 50 ⟨w.heap.size + 2, 0⟩ wr B1 xs) ∧ Hid (p < wr.heap.size) ∧ Hid ((Kd.sl 3 I64).O 30 ⟨w.heap.size + 2, 0⟩ (w.heap.size + 2) wr v (xt.take k)) ∧ Below W.heap.size W wr) (fun i _ => xt.length - (intOf i).toNat)
        case atStart => exact ⟨0, .slice none 0 0, Nat.zero_le _, rfl, ⟨t0, t1, t2, t3, t4, t5, t6, t7, t8⟩, hf8, HR, HP8, Lib.hid (Kd.O_nil ..), hB8⟩
        case round =>
          clear t0 t1 t2 t3 t4 t5 t6 t7 t8 hf8 HR HP8 hB8
          obtain ⟨k, v, hk, rfl, ⟨t0, t1, t2, t3, t4, t5, t6, t7, t8⟩, hf8, HR, HP8, HO, hB8⟩ := hrel
          have hcn := (box_keep hB8 hn).1
          have z5 := (hcn 6).trans q6
          clear hcn
          by_cases hlt : k < xt.length
          · obtain ⟨g, o, A', c', hA, hg, hc, hcl, hc2, hC⟩ := C_sl HC2.out hlt
            subst hA
            have hBx := below_then hBW hB8
            have hce := ((box_keep hBx hg).1 (o + k)).trans hc
            have HX := Lib.hid (Kd.C_below hC hBx)
            have hS := HS4.out k
            have HG := Lib.hid (upto_take (d := ([] : List Int)) hlt)
            clear hc hC
            generalize xt.getD k [] = X at *
            go_wp2_with fail
            have hk0 : (0 : Int) ≤ (k : Int) := by omega
            have hk1 : (k : Int) < (xt.length : Int) := by omega
            refine wp_region_late (S := fun w' => w'.cell? ⟨p, 6, none⟩ = some v ∧ w'.cell? ⟨w.heap.size, 6, none⟩ = some (.slice (some ⟨g, o, none⟩) xt.length c2) ∧ w'.cell? ⟨g, o + k, none⟩ = some (.slice A' X.length c')) (D := [0, 1, 2, 3, 4, 5, 6]) (by kernel_rfl) rfl (by simp [*]) (fun hHeld => ?_)
            (refine late_take (i := 0) (v := ?_) rfl (by kernel_rfl) (by kernel_rfl) (by kernel_rfl) (by kernel_rfl) (fun _ _ _ h => h) (Or.inl ⟨by rfl, ?_⟩) (by assumption) ?_; rotate_left 1; focus (intro w hSw; (try dsimp only at hSw); go_simp; try (with_reducible rfl)); (try simp only [List.getElem_toArray, List.getElem_cons_succ, List.getElem_cons_zero]); (try simp only [Act.put, List.setIfInBounds_toArray, List.set_cons_zero, List.set_cons_succ]))
            (refine late_take (i := 1) (v := ?_) rfl (by kernel_rfl) (by kernel_rfl) (by kernel_rfl) (by kernel_rfl) (fun _ _ _ h => h) (Or.inl ⟨by rfl, ?_⟩) (by assumption) ?_; rotate_left 1; focus (intro w hSw; (try dsimp only at hSw); go_simp; try (with_reducible rfl)); (try simp only [List.getElem_toArray, List.getElem_cons_succ, List.getElem_cons_zero]); (try simp only [Act.put, List.setIfInBounds_toArray, List.set_cons_zero, List.set_cons_succ]))
            (refine late_take (i := 2) (v := ?_) rfl (by kernel_rfl) (by kernel_rfl) (by kernel_rfl) (by kernel_rfl) (fun _ _ _ h => h) (Or.inl ⟨by rfl, ?_⟩) (by assumption) ?_; rotate_left 1; focus (intro w hSw; (try dsimp only at hSw); go_simp; try (with_reducible rfl)); (try simp only [List.getElem_toArray, List.getElem_cons_succ, List.getElem_cons_zero]); (try simp only [Act.put, List.setIfInBounds_toArray, List.set_cons_zero, List.set_cons_succ]))
            (refine late_take (i := 3) (v := ?_) rfl (by kernel_rfl) (by kernel_rfl) (by kernel_rfl) (by kernel_rfl) (fun _ _ _ h => h) (Or.inl ⟨by rfl, ?_⟩) (by assumption) ?_; rotate_left 1; focus (intro w hSw; (try dsimp only at hSw); go_simp; try (with_reducible rfl)); (try simp only [List.getElem_toArray, List.getElem_cons_succ, List.getElem_cons_zero]); (try simp only [Act.put, List.setIfInBounds_toArray, List.set_cons_zero, List.set_cons_succ]))
            (refine late_take (i := 4) (v := ?_) rfl (by kernel_rfl) (by kernel_rfl) (by kernel_rfl) (by kernel_rfl) (fun _ _ _ h => h) (Or.inl ⟨by rfl, ?_⟩) (by assumption) ?_; rotate_left 1; focus (intro w hSw; (try dsimp only at hSw); go_simp; try (with_reducible rfl)); (try simp only [List.getElem_toArray, List.getElem_cons_succ, List.getElem_cons_zero]); (try simp only [Act.put, List.setIfInBounds_toArray, List.set_cons_zero, List.set_cons_succ]))
            (refine late_take (i := 5) (v := ?_) rfl (by kernel_rfl) (by kernel_rfl) (by kernel_rfl) (by kernel_rfl) (fun _ _ _ h => h) (Or.inl ⟨by rfl, ?_⟩) (by assumption) ?_; rotate_left 1; focus (intro w hSw; (try dsimp only at hSw); go_simp; try (with_reducible rfl)); (try simp only [List.getElem_toArray, List.getElem_cons_succ, List.getElem_cons_zero]); (try simp only [Act.put, List.setIfInBounds_toArray, List.set_cons_zero, List.set_cons_succ]))
            (refine late_take (i := 6) (v := ?_) rfl (by kernel_rfl) (by kernel_rfl) (by kernel_rfl) (by kernel_rfl) (fun _ _ _ h => h) (Or.inl ⟨by rfl, ?_⟩) (by assumption) ?_; rotate_left 1; focus (intro w hSw; (try dsimp only at hSw); go_simp; try (with_reducible rfl)); (try simp only [List.getElem_toArray, List.getElem_cons_succ, List.getElem_cons_zero]); (try simp only [Act.put, List.setIfInBounds_toArray, List.set_cons_zero, List.set_cons_succ]))
            have hpr := HP8.out
            have hnr : w.heap.size < wr.heap.size := Nat.lt_of_lt_of_le hn hB8.size
            have hgr' : g < wr.heap.size := Nat.lt_of_lt_of_le hg hBx.size
            have hWr := hB8.size
            have hNr := HN.out
            (refine late_list (i := 7) (by kernel_rfl) rfl (by rfl) (fun K hK => ?_); (try simp only [List.getElem_toArray, List.getElem_cons_succ, List.getElem_cons_zero]))
            have hcC : I64.C 3 b wr.drew A' X := Kd.C_below HX.out (Below.refl _ _).drew
            have hbb : b.hi ≤ wr.drew.heap.size := by show b.hi ≤ wr.heap.size; omega
            refine append_row I64 3 b wr.drew.heap.size rfl (.const (.slice none 0 0)) (.tmp 53) 30 (.int .i64 0) 1 8 rfl Try.underlying30 (by kernel_rfl) rfl rfl (by decide) (by decide) (by decide) hbb (.slice none 0 0) [] X A' c' ?_ ?_ (Kd.O_nil ..) hcC (Nat.le_refl _) (by simp; omega) ?_
            · rfl
            · kernel_rfl
            clear hcC hbb
            intro v1 w1 h1 h2 _
            change K _ _
            rw [List.nil_append] at h1
            obtain ⟨Au, cu, rfl, hu1, hu2, hu3⟩ := Kd.O_C (b := ⟨w.heap.size + 2, 0⟩) (y := ⟨w.heap.size + 2, 0⟩) (show I64.O 3 ⟨w.heap.size + 2, 0⟩ wr.drew.heap.size w1 v1 X from h1) (by decide) ⟨Nat.le_refl _, Nat.le_refl _⟩ (by show w.heap.size + 2 ≤ wr.heap.size; omega)
            have hB1 := below_of_drew (below_none h2)
            have hs1 := hB1.size
            (refine hK.out _ _ ?_ (fun hHeld => ?_); rotate_left 1; (try clear hK); (try clear K); (try simp only [List.getElem_toArray, List.getElem_cons_succ, List.getElem_cons_zero]); (try simp only [Act.put, List.setIfInBounds_toArray, List.set_cons_zero, List.set_cons_succ]); rotate_left 1; focus ((simp only [(box_keep hB1 hpr).1, (box_keep hB1 hnr).1, (box_keep hB1 hgr').1]; exact hHeld)))
            have HU := Lib.hid (And.intro hu1 (And.intro hu2 hu3))
            have HB1 := Lib.hid hB1
            have HO1 := Lib.hid (Kd.O_below HO.out hB1)
            have HA := Lib.hid fun (ob : Obj) => ((Below.refl w1.heap.size w1).alloc (Nat.le_refl _) ob)
            clear h1 h2 hu1 hu2 hu3 hB1
            (refine late_only (i := 8) (by kernel_rfl) rfl (by rfl) (fun K hK => ?_); go_simp)
            (refine hK.out _ _ ?_ (fun hHeld => ?_); rotate_left 1; (try clear hK); (try clear K); (try simp only [List.getElem_toArray, List.getElem_cons_succ, List.getElem_cons_zero]); (try simp only [Act.put, List.setIfInBounds_toArray, List.set_cons_zero, List.set_cons_succ]); rotate_left 1; focus ((simp only [(box_keep (HA.out _) (Nat.lt_of_lt_of_le hpr hs1)).1, (box_keep (HA.out _) (Nat.lt_of_lt_of_le hnr hs1)).1, (box_keep (HA.out _) (Nat.lt_of_lt_of_le hgr' hs1)).1]; exact hHeld)))
            (refine late_list (i := 9) (by kernel_rfl) rfl (by rfl) (fun K hK => ?_); (try simp only [List.getElem_toArray, List.getElem_cons_succ, List.getElem_cons_zero]))
            refine append_one (Kd.sl 3 I64) (W := w1) 30 ⟨w.heap.size + 2, 0⟩ (w.heap.size + 2) rfl (.tmp 48) (.tmp 55) 34 (.slice none 0 0) 1 24 rfl Try.underlying34 (by kernel_rfl) rfl rfl (by decide) (by decide) (by decide) (Nat.zero_le _) v (xt.take k) X [.slice Au X.length cu] ?_ ?_ HO1.out ⟨Au, cu, rfl, HU.out⟩ (by omega) (by simp only [List.length_take]; omega) ?_
            · kernel_rfl
            · kernel_rfl
            intro v2 w2 h3 h4 _
            change K _ _
            rw [HG.out] at h3
            have htp : ∃ cur, w1.heap[p]? = some (.cells cur 37 (0, 0)) := by
              obtain ⟨⟨cur, hc⟩, _⟩ := HR.out
              exact ⟨cur, (HB1.out.block _ hpr).trans hc⟩
            have kp := same_cell (grown_cell h4 HO1.out (Nat.lt_of_lt_of_le hpr hs1) (.inr ⟨37, by decide, htp⟩))
            have kn := same_cell (grown_cell h4 HO1.out (Nat.lt_of_lt_of_le hnr hs1) (.inl (by omega)))
            have kg := same_cell (grown_cell h4 HO1.out (Nat.lt_of_lt_of_le hgr' hs1) (.inl (by omega)))
            (refine hK.out _ _ ?_ (fun hHeld => ?_); rotate_left 1; (try clear hK); (try clear K); (try simp only [List.getElem_toArray, List.getElem_cons_succ, List.getElem_cons_zero]); (try simp only [Act.put, List.setIfInBounds_toArray, List.set_cons_zero, List.set_cons_succ]); rotate_left 1; focus ((simp only [kp.1, kn.1, kg.1]; simpa only [(box_keep (HA.out _) (Nat.lt_of_lt_of_le hpr hs1)).1, (box_keep (HA.out _) (Nat.lt_of_lt_of_le hnr hs1)).1, (box_keep (HA.out _) (Nat.lt_of_lt_of_le hgr' hs1)).1] using hHeld)))
            have kb := box_keep HB1.out hpr
            simp only [← kb.1] at t0 t1 t2 t3 t4 t5 t6 t7 t8
            simp only [← kp.1] at t0 t1 t2 t3 t4 t5 t6 t7 t8
            simp only [← kb.2] at hf8
            simp only [← kp.2] at hf8
            have H3 := Lib.hid h3
            have hty2 : ∃ cur, w2.heap[p]? = some (.cells cur 37 (0, 0)) := by
              obtain ⟨cur, hc⟩ := htp
              exact ⟨cur, (grown_cell h4 HO1.out (Nat.lt_of_lt_of_le hpr hs1) (.inr ⟨37, by decide, cur, hc⟩)).trans hc⟩
            have hsz2 : w1.heap.size ≤ w2.heap.size := h4.size
            have hm4 : ∀ E, 30 ∉ E → ∀ k', (⟨w.heap.size + 2, 0⟩ : Zn).met E w1 k' → w2.heap[k']? = w1.heap[k']? := by
              obtain ⟨cs, ho, _⟩ := HO1.out
              exact fun E hE => Kd.met_own ho hE (Nat.zero_le _) h4
            have HM := Lib.hid hm4
            have HY := Lib.hid hty2
            have hB9 := below_O (below_then hB8 HB1.out) h4 (by omega) HO1.out (by omega)
            clear h3 h4 kb kp kn kg htp hm4 hty2
            obtain ⟨v2a, l2, v2c, rfl⟩ : ∃ a l c, v2 = .slice a l c := by
              obtain ⟨a, c, h, _⟩ := Kd.O_slice H3.out
              exact ⟨a, _, c, h⟩
            (refine late_last (i := 10) (by kernel_rfl) rfl (by rfl) (by kernel_rfl) (fun K hK => ?_); go_simp)
            (refine hK.out _ _ ?_; clear hK; clear K; (try simp only [List.getElem_toArray, List.getElem_cons_succ, List.getElem_cons_zero]); (try simp only [Act.put, List.setIfInBounds_toArray, List.set_cons_zero, List.set_cons_succ]))
            (refine late_last (i := 11) (by kernel_rfl) rfl (by rfl) (by kernel_rfl) (fun K hK => ?_); go_simp)
            (refine hK.out _ _ ?_; clear hK; clear K; (try simp only [List.getElem_toArray, List.getElem_cons_succ, List.getElem_cons_zero]); (try simp only [Act.put, List.setIfInBounds_toArray, List.set_cons_zero, List.set_cons_succ]))
            refine late_done (by kernel_rfl) ?_
            go_wp2_with fail
            go_roundw
            case rel =>
              refine ⟨k + 1, .slice v2a l2 v2c, by omega, by go_num, ⟨by simp [go_sem, t0, t1, t2, t3, t4, t5, t6, t7, t8], by simp [go_sem, t0, t1, t2, t3, t4, t5, t6, t7, t8], by simp [go_sem, t0, t1, t2, t3, t4, t5, t6, t7, t8], by simp [go_sem, t0, t1, t2, t3, t4, t5, t6, t7, t8], by simp [go_sem, t0, t1, t2, t3, t4, t5, t6, t7, t8], by simp [go_sem, t0, t1, t2, t3, t4, t5, t6, t7, t8], by simp [go_sem, t0, t1, t2, t3, t4, t5, t6, t7, t8], by simp [go_sem, t0, t1, t2, t3, t4, t5, t6, t7, t8], by simp [go_sem, t0, t1, t2, t3, t4, t5, t6, t7, t8]⟩, by intro o; simp [go_sem, hf8], Lib.hid ⟨typed_set HY.out _ _, Kd.C_box (Kd.C_chg (Kd.C_below HR.out.2.1 HB1.out) (HM.out _ (by decide))) (by decide) (Nat.zero_le _) HY.out (grown_set (grown_refl _ _) _ _), Kd.C_box (Kd.C_chg (Kd.C_below HR.out.2.2.1 HB1.out) (HM.out _ (by decide))) (by decide) (Nat.zero_le _) HY.out (grown_set (grown_refl _ _) _ _), Kd.C_box (Kd.C_chg (Kd.C_below HR.out.2.2.2 HB1.out) (HM.out _ (by decide))) (by decide) (Nat.zero_le _) HY.out (grown_set (grown_refl _ _) _ _)⟩, Lib.hid (by simp; omega), Lib.hid (Kd.O_met H3.out (by simp) (fun E hE y hy => met_box (t := 37) (fun h => absurd (hE h) (by decide)) (by omega) HY.out (grown_set (grown_refl _ _) _ _)) (Nat.zero_le _)), hB9.setCell (p := ⟨p, 6, none⟩) (by dsimp only; omega) _⟩
            case measure => simp [intOf]; omega
          · obtain rfl : k = xt.length := by omega
            go_wp2_with fail
            rw [List.take_length] at HO
            obtain ⟨B2, d2, rfl, hg6, hd6, hCn⟩ := Kd.O_C (b := ⟨w.heap.size + 2, 0⟩) (y := ⟨w.heap.size + 2, 0⟩) HO.out (by decide) ⟨Nat.le_refl _, Nat.le_refl _⟩ (Nat.le_refl (w.heap.size + 2))
            have HRn := Lib.hid (show ((∃ cur, wr.heap[p]? = some (.cells cur 37 (0, 0))) ∧ I64.C 3 ⟨w.heap.size + 2, 0⟩ wr B0 xg ∧ I64.C 3 ⟨w.heap.size + 2, 0⟩ wr B4 xl ∧ (Kd.sl 57 kSec).C 50 ⟨w.heap.size + 2, 0⟩ wr B1 xs ∧ (Kd.sl 3 I64).C 30 ⟨w.heap.size + 2, 0⟩ wr B2 xt) from ⟨HR.out.1, HR.out.2.1, HR.out.2.2.1, HR.out.2.2.2, hCn⟩)
            clear HR HO hCn z5
            have HR := HRn
            clear HRn
            obtain ⟨W1, h7⟩ : ∃ W1, wr = W1 := ⟨_, rfl⟩
            subst wr
            have hmx3 : xn.length ≤ 9223372036854775807 := by omega
            go_loopw [6, 7, 8, 9] (fun i _ _ _ wr => ∃ (k : Nat) (v : Value), k ≤ xn.length ∧ i = .int .i64 k ∧ (wr.cell? ⟨p, 0, none⟩ = some (.int .i64 x0) ∧ wr.cell? ⟨p, 1, none⟩ = some (.int .u8 i0) ∧ wr.cell? ⟨p, 2, none⟩ = some (.int .u8 i1) ∧ wr.cell? ⟨p, 3, none⟩ = some (.int .i64 i2) ∧ wr.cell? ⟨p, 4, none⟩ = some (.slice B0 xg.length d0) ∧ wr.cell? ⟨p, 5, none⟩ = some (.slice B1 xs.length d1) ∧ wr.cell? ⟨p, 6, none⟩ = some (.slice B2 xt.length d2) ∧ wr.cell? ⟨p, 7, none⟩ = some (v) ∧ wr.cell? ⟨p, 8, none⟩ = some (.slice B4 xl.length d4)) ∧ (∀ o, wr.frozen? ⟨p, o, none⟩ = false) ∧ Hid ((∃ cur, wr.heap[p]? = some (.cells cur 37 (0, 0))) ∧ I64.C 3 ⟨w.heap.size + 2, 0⟩ wr B0 xg ∧ I64.C 3 ⟨w.heap.size + 2, 0⟩ wr B4 xl ∧ (Kd.sl 57 kSec).C 50 ⟨w.heap.size + 2, 0⟩ wr B1 xs ∧ (Kd.sl 3 I64).C 30 ⟨w.heap.size + 2, 0⟩ wr B2 xt) ∧ Hid (p < wr.heap.size) ∧ Hid ((Kd.sl 53 kFilt).O 51 ⟨w.heap.size + 2, 0⟩ (w.heap.size + 2) wr v (xn.take k)) ∧ Below W.heap.size W wr) (fun i _ _ _ _ => xn.length - (intOf i).toNat)
            case atStart => exact ⟨0, .slice none 0 0, Nat.zero_le _, rfl, ⟨t0, t1, t2, t3, t4, t5, t6, t7, t8⟩, hf8, HR, HP8, Lib.hid (Kd.O_nil ..), hB8⟩
            case round =>
              clear t0 t1 t2 t3 t4 t5 t6 t7 t8 hf8 HR HP8 hB8
              obtain ⟨k, v, hk, rfl, ⟨t0, t1, t2, t3, t4, t5, t6, t7, t8⟩, hf8, HR, HP8, HO, hB8⟩ := hrel
              have hcn := (box_keep hB8 hn).1
              have z7 := (hcn 7).trans q7
              clear hcn
              by_cases hlt : k < xn.length
              · obtain ⟨g, o, A', c', hA, hg, hc, hcl, hc2, hC⟩ := C_sl HC3.out hlt
                subst hA
                have hBx := below_then hBW hB8
                have hce := ((box_keep hBx hg).1 (o + k)).trans hc
                have HX := Lib.hid hC
                have HCw := Lib.hid hc
                have HG := Lib.hid (upto_take (d := ([] : List Filt)) hlt)
                clear hc hC
                have hS := HS6.out k
                have hS7 := Lib.hid (HS7.out k)
                generalize xn.getD k [] = X at *
                have hmX : X.length ≤ 9223372036854775807 := by simp only [maxLen] at hc2; omega
                go_wp2_with fail
                obtain ⟨W3, h7⟩ : ∃ W3, wr = W3 := ⟨_, rfl⟩
                subst wr
                go_loopw [7, 8, 9] (fun l j _ wr => ∃ (q : Nat) (vl : Value), q ≤ X.length ∧ l = vl ∧ j = .int .i64 q ∧ Hid (kFilt.O 53 ⟨w.heap.size + 2, 0⟩ W3.heap.size wr vl (X.take q)) ∧ Below W3.heap.size W3 wr) (fun _ j _ _ => X.length - (intOf j).toNat)
                case atStart => exact ⟨0, .slice none 0 0, Nat.zero_le _, rfl, rfl, Lib.hid (Kd.O_nil ..), Below.refl _ _⟩
                case round =>
                  obtain ⟨q, vl, hq, rfl, rfl, HL, hB9⟩ := hrel
                  have hWs : W.heap.size ≤ W3.heap.size := hB8.size
                  have hW9 : W3.heap.size ≤ wr.heap.size := hB9.size
                  have hNr := HN.out
                  have hBy : Below w.heap.size w wr := hBx.trans (hB9.mono hBx.size)
                  have z7' := ((box_keep6 hB9 (Nat.lt_of_lt_of_le hn hWs)).1 7).trans z7
                  have hce' := ((box_keep6 hB9 (Nat.lt_of_lt_of_le hg hBx.size)).1 (o + k)).trans hce
                  by_cases hql : q < X.length
                  · obtain ⟨g', o', cs, hA, hg', hK, hcs⟩ := Kd.C_at (Kd.C_below HX.out hBy) default hql
                    subst hA
                    obtain ⟨Aq, cq, rfl, e0, e1, hq1, hq2, hCq⟩ := K_filt.1 hK
                    have hi := fun j u hu => hcs j u hu
                    simp only [show kFilt.sz = 5 from rfl, ← Nat.add_assoc] at hi
                    have f0 := hi 0 _ rfl
                    rw [Nat.add_zero] at f0
                    have f1 := hi 1 _ rfl
                    have f2 := hi 2 _ rfl
                    have f3 := hi 3 _ rfl
                    have f4 := hi 4 _ rfl
                    have hS8 := hS7.out q
                    have HQ := Lib.hid (upto_take1 (d := (default : Filt)) hql)
                    have HCq := Lib.hid (fun ob => Kd.C_below hCq ((Below.refl _ wr).alloc (Nat.le_refl _) ob))
                    clear hK hcs hi hCq
                    generalize X.getD q default = xq at *
                    obtain ⟨l0, l1, l2, l3, l4⟩ := xq
                    dsimp only at f0 f1 f2 f3 f4 hS8 e0 e1 hq1 HCq
                    go_upto_region 20 with ((at_builtin; refine append_row (I64) 3 b wr.heap.size rfl (.const (.slice none 0 0)) (.tmp 84) 30 (.int .i64 0) 1 8 rfl Try.underlying30 (by kernel_rfl) rfl rfl (by decide) (by decide) (by decide) (by omega) (.slice none 0 0) [] l4 Aq cq (by kernel_rfl) (by kernel_rfl) (Kd.O_nil ..) (HCq.out _) (by simp) (by simp; omega) ?_; intro v1 w1 h1 h2 h3; clear h3; have hB1 := below_none h2; obtain ⟨Av, cv, rfl, hl1, hl2, hl3⟩ := O_i64 h1 ⟨w.heap.size + 2, 0⟩ (by dsimp only; omega); simp only [List.nil_append] at hl1 hl3; have HOl := Lib.hid hl3; have HLl := Lib.hid (And.intro hl1 hl2); have HB1 := Lib.hid hB1; have hcf := box_keep hB1 (n := wr.heap.size) (by simp); have hsf := hB1.size; (try simp at hsf); have hB2 := (below_then (w := wr) (by repeat (first | with_reducible exact Below.refl _ _ | with_reducible assumption | with_reducible refine Below.drew ?_ | with_reducible refine below_drewN ?_ _ | (with_reducible refine Below.alloc ?_ ?_ _; rotate_left 1; focus (first | (simp; done) | (simp; omega) | omega)) | (with_reducible refine Below.setCell ?_ ?_ _; rotate_left 1; focus (first | (simp; done) | (simp; omega) | omega)))) hB1).setCell (p := ⟨wr.heap.size, 4, none⟩) (Nat.le_refl _) (.slice Av l4.length cv); have HB2 := Lib.hid hB2; have HLW := Lib.hid (Kd.O_below HL.out hB2); have hty : ∃ cur, w1.heap[wr.heap.size]? = some (.cells cur 53 (0, 0)) := ⟨_, (hB1.block _ (by simp)).trans (alloc1_new _ _)⟩; have HKW := Lib.hid (show kFilt.K ⟨w.heap.size + 2, 0⟩ (w1.setCell ⟨wr.heap.size, 4, none⟩ (.slice Av l4.length cv)) ⟨l0, l1, l2, l3, l4⟩ [.int .i64 l0, .int .i64 l1, .bool l2, .bool l3, .slice Av l4.length cv] from K_filt.2 ⟨Av, cv, rfl, e0, e1, hl1, hl2, Kd.C_box hl3 (by decide) (Nat.zero_le _) hty (grown_set (grown_refl _ _) _ _)⟩); clear h1 h2 hl1 hl2 hl3 hB1 hB2 hty; simp only [List.nil_append]))
                    go_wp2_with (at_builtin; go_must (refine append_one kFilt (W := w1.setCell ⟨wr.heap.size, 4, none⟩ (.slice Av l4.length cv)) 53 ⟨w.heap.size + 2, 0⟩ W3.heap.size rfl (.tmp 87) (.tmp 89) 51 (.agg #[.int .i64 0, .int .i64 0, .bool false, .bool false, .slice none 0 0]) 5 48 rfl Try.underlying51 (by kernel_rfl) rfl rfl (by decide) (by decide) (by decide) (Nat.zero_le _) u7 (X.take q) ⟨l0, l1, l2, l3, l4⟩ [.int .i64 l0, .int .i64 l1, .bool l2, .bool l3, .slice Av l4.length cv] (by kernel_rfl) (by rw [show (w1.setCell ⟨wr.heap.size, 4, none⟩ (.slice Av l4.length cv)).heap.size = w1.heap.size from by simp]; kernel_rfl) HLW.out HKW.out (by simp; omega) (by simp only [List.length_take]; omega) ?_; intro v2 w2 h3 h4 h5; clear h5; rw [HQ.out] at h3; have H3 := Lib.hid h3; have hB4 := below_O (Below.refl W3.heap.size (w1.setCell ⟨wr.heap.size, 4, none⟩ (.slice Av l4.length cv))) h4 (by simp; omega) HLW.out (Nat.le_refl _); have HB4 := Lib.hid hB4; clear h3 h4 hB4))
                    go_roundw
                    case rel => exact ⟨q + 1, v2, by omega, rfl, by go_num, H3, (hB9.trans (HB2.out.mono hW9)).trans HB4.out⟩
                    case measure => simp [intOf]; omega
                  · obtain rfl : q = X.length := by omega
                    rw [List.take_length] at HL
                    have hcp9 := box_keep6 hB9 HP8.out
                    simp only [← hcp9.1] at t0 t1 t2 t3 t4 t5 t6 t7 t8
                    simp only [← hcp9.2] at hf8
                    clear hcp9
                    have hpr : p < wr.heap.size := Nat.lt_of_lt_of_le HP8.out hW9
                    obtain ⟨Al, cl, rfl, hl1, hl2, hlC⟩ := Kd.O_C (b := ⟨w.heap.size + 2, 0⟩) (y := ⟨w.heap.size + 2, 0⟩) HL.out (by decide) ⟨Nat.le_refl _, Nat.le_refl _⟩ (by dsimp only; omega)
                    have HLC := Lib.hid hlC
                    have HOw := Lib.hid (Kd.O_below HO.out hB9)
                    clear HO hlC HL
                    obtain ⟨A7, n7, c7, rfl⟩ : ∃ a l c, v = .slice a l c := by
                      obtain ⟨a, c, h, _⟩ := Kd.O_slice HOw.out
                      exact ⟨a, _, c, h⟩
                    have htp : ∃ cur, wr.heap[p]? = some (.cells cur 37 (0, 0)) := by
                      obtain ⟨⟨cur, hc⟩, _⟩ := HR.out
                      exact ⟨cur, (hB9.block _ HP8.out).trans hc⟩
                    have HTP := Lib.hid htp
                    clear htp
                    go_wp2_with (at_builtin; go_must (
                      refine append_one (Kd.sl 53 kFilt) (W := wr) 51 ⟨w.heap.size + 2, 0⟩ (w.heap.size + 2) rfl (.tmp 92) (.tmp 94) 35 (.slice none 0 0) 1 24 rfl Try.underlying35 (by kernel_rfl) rfl rfl (by decide) (by decide) (by decide) (Nat.zero_le _) (.slice A7 n7 c7) (xn.take k) X [.slice Al X.length cl] (by kernel_rfl) (by kernel_rfl) HOw.out ⟨Al, cl, rfl, hl1, hl2, HLC.out⟩ (by omega) (by simp only [List.length_take]; omega) ?_
                      intro v2 w2 h3 h4 h5
                      clear h5
                      rw [HG.out] at h3
                      have kp := same_cell (grown_cell h4 HOw.out hpr (.inr ⟨37, by decide, HTP.out⟩))
                      simp only [← kp.1] at t0 t1 t2 t3 t4 t5 t6 t7 t8
                      simp only [← kp.2] at hf8
                      have H3 := Lib.hid h3
                      have hty2 : ∃ cur, w2.heap[p]? = some (.cells cur 37 (0, 0)) := by
                        obtain ⟨cur, hc⟩ := HTP.out
                        exact ⟨cur, (grown_cell h4 HOw.out hpr (.inr ⟨37, by decide, cur, hc⟩)).trans hc⟩
                      have hsz2 : wr.heap.size ≤ w2.heap.size := h4.size
                      have hm4 : ∀ E, 51 ∉ E → ∀ k', (⟨w.heap.size + 2, 0⟩ : Zn).met E wr k' → w2.heap[k']? = wr.heap[k']? := by
                        obtain ⟨cs, ho, _⟩ := HOw.out
                        exact fun E hE => Kd.met_own ho hE (Nat.zero_le _) h4
                      have HM := Lib.hid hm4
                      have HY := Lib.hid hty2
                      have hB10 := below_O (hB8.trans (hB9.mono hWs)) h4 (by omega) HOw.out (by omega)
                      clear h3 h4 kp hm4 hty2
                      obtain ⟨v2a, l2, v2c, rfl⟩ : ∃ a l c, v2 = .slice a l c := by
                        obtain ⟨a, c, h, _⟩ := Kd.O_slice H3.out
                        exact ⟨a, _, c, h⟩))
                    go_roundw
                    case rel =>
                      refine ⟨k + 1, .slice v2a l2 v2c, by omega, by go_num, ⟨by simp [go_sem, t0, t1, t2, t3, t4, t5, t6, t7, t8], by simp [go_sem, t0, t1, t2, t3, t4, t5, t6, t7, t8], by simp [go_sem, t0, t1, t2, t3, t4, t5, t6, t7, t8], by simp [go_sem, t0, t1, t2, t3, t4, t5, t6, t7, t8], by simp [go_sem, t0, t1, t2, t3, t4, t5, t6, t7, t8], by simp [go_sem, t0, t1, t2, t3, t4, t5, t6, t7, t8], by simp [go_sem, t0, t1, t2, t3, t4, t5, t6, t7, t8], by simp [go_sem, t0, t1, t2, t3, t4, t5, t6, t7, t8], by simp [go_sem, t0, t1, t2, t3, t4, t5, t6, t7, t8]⟩, by intro o; simp [go_sem, hf8], Lib.hid ⟨typed_set HY.out _ _, Kd.C_box (Kd.C_chg (Kd.C_below HR.out.2.1 hB9) (HM.out _ (by decide))) (by decide) (Nat.zero_le _) HY.out (grown_set (grown_refl _ _) _ _), Kd.C_box (Kd.C_chg (Kd.C_below HR.out.2.2.1 hB9) (HM.out _ (by decide))) (by decide) (Nat.zero_le _) HY.out (grown_set (grown_refl _ _) _ _), Kd.C_box (Kd.C_chg (Kd.C_below HR.out.2.2.2.1 hB9) (HM.out _ (by decide))) (by decide) (Nat.zero_le _) HY.out (grown_set (grown_refl _ _) _ _), Kd.C_box (Kd.C_chg (Kd.C_below HR.out.2.2.2.2 hB9) (HM.out _ (by decide))) (by decide) (Nat.zero_le _) HY.out (grown_set (grown_refl _ _) _ _)⟩, Lib.hid (by simp; omega), Lib.hid (Kd.O_met H3.out (by simp) (fun E hE y hy => met_box (t := 37) (fun h => absurd (hE h) (by decide)) (by omega) HY.out (grown_set (grown_refl _ _) _ _)) (Nat.zero_le _)), hB10.setCell (p := ⟨p, 7, none⟩) (by dsimp only; omega) _⟩
                    case measure => simp [intOf]; omega
              · obtain rfl : k = xn.length := by omega
                rw [List.take_length] at HO
                obtain ⟨B3, d3, rfl, hg7, hd7, hCn⟩ := Kd.O_C (b := ⟨w.heap.size + 2, 0⟩) (y := ⟨w.heap.size + 2, 0⟩) HO.out (by decide) ⟨Nat.le_refl _, Nat.le_refl _⟩ (Nat.le_refl (w.heap.size + 2))
                have HCn := Lib.hid hCn
                have hcv := box_keep hB8 hn1
                simp only [← hcv.1] at y0 y1 y2 y3 y4 y5 y6 y7 y8
                have hf3 : ∀ o, wr.frozen? ⟨w.heap.size + 1, o, none⟩ = false := fun o => (hcv.2 o).trans (hf2 o)
                have hB0 := below_then hBW hB8
                have hNr := HN.out
                clear hcv HO hCn hB8 hNr
                go_wp2_with fail
                refine bodyPost_ret (v := .agg #[.int .i64 x0, .int .u8 i0, .int .u8 i1, .int .i64 i2, .slice B0 xg.length d0, .slice B1 xs.length d1, .slice B2 xt.length d2, .slice B3 xn.length d3, .slice B4 xl.length d4]) (by simp [results, Try.results21, go_sem, *]) rfl ⟨[_, _, _, _, _, _, _, _, _], rfl, ?_, (by repeat (first | with_reducible exact Below.refl _ _ | with_reducible assumption | with_reducible refine Below.drew ?_ | with_reducible refine below_drewN ?_ _ | (with_reducible refine Below.alloc ?_ ?_ _; rotate_left 1; focus (first | (simp; done) | (simp; omega) | omega)) | (with_reducible refine Below.setCell ?_ ?_ _; rotate_left 1; focus (first | (simp; done) | (simp; omega) | omega))))⟩
                have hh : ∀ k, w.heap.size + 2 ≤ k → (((((((((wr.setCell ⟨w.heap.size + 1, 0, none⟩ (.int .i64 x0)).setCell ⟨w.heap.size + 1, 1, none⟩ (.int .u8 i0)).setCell ⟨w.heap.size + 1, 2, none⟩ (.int .u8 i1)).setCell ⟨w.heap.size + 1, 3, none⟩ (.int .i64 i2)).setCell ⟨w.heap.size + 1, 4, none⟩ (.slice B0 xg.length d0)).setCell ⟨w.heap.size + 1, 5, none⟩ (.slice B1 xs.length d1)).setCell ⟨w.heap.size + 1, 6, none⟩ (.slice B2 xt.length d2)).setCell ⟨w.heap.size + 1, 7, none⟩ (.slice B3 xn.length d3)).setCell ⟨w.heap.size + 1, 8, none⟩ (.slice B4 xl.length d4)).heap[k]? = wr.heap[k]? := by repeat (first | with_reducible refine hi_set ?_ _ _ (by simp) | with_reducible exact hi_refl _ _)
                have lz : Zn.le ⟨w.heap.size + 2, 0⟩ (Zn.new w) := ⟨by simp [Zn.new], Nat.le_refl _⟩
                exact K_chn.2 ⟨B0, d0, B1, d1, B2, d2, B3, d3, B4, d4, rfl, r0, ⟨ri0, ri1, ri2, hgr.1, hgr.2, Kd.C_hi HR.out.2.1 hh lz⟩, ⟨hg5, hd5, Kd.C_hi HR.out.2.2.2.1 hh lz⟩, ⟨hg6, hd6, Kd.C_hi HR.out.2.2.2.2 hh lz⟩, ⟨hg7, hd7, Kd.C_hi HCn.out hh lz⟩, ⟨hv1, hv2, Kd.C_hi HR.out.2.2.1 hh lz⟩⟩
end Go.Proofs.Ytagihamgaidikaa
