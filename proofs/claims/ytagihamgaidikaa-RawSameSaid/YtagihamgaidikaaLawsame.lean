/- reedpipelaw23.RawSame answers true. -/
import Derived.Test.YtagihamgaidikaaMild
import Derived.Test.YtagihamgaidikaaRefFrm
set_option linter.unusedVariables false
set_option linter.unusedSimpArgs false
namespace Go.Proofs.Ytagihamgaidikaa
open Go.RowKit
set_option maxHeartbeats 1000000
theorem sameB_self {α : Type} [DecidableEq α] (x : α) : sameB x x = true := decide_eq_true rfl
set_option maxRecDepth 100000 in
theorem law_same (x y : Frm) (cs ds : List Value) (w : World) (hx : kFrm.K ⟨0, w.heap.size⟩ w x cs) (hy : kFrm.K ⟨0, w.heap.size⟩ w y ds) :
    Calls Try.prog 3 #[.agg cs.toArray, .agg ds.toArray] w fun e w' => e = .returned (.bool true) ∧ Below w.heap.size w w' := by
  obtain ⟨A0, c0, A1, c1, A2, c2, rfl, hx'⟩ := K_frm.1 hx
  obtain ⟨D0, e0, D1, e1, D2, e2, rfl, hy'⟩ := K_frm.1 hy
  clear hx' hy'
  have hu := Try.underlying26
  have hu2 := Try.underlying37
  have HX := Lib.hid hx
  have HY := Lib.hid hy
  clear hx hy
  go_enter Try.func3, Try.ntmps3
  go_upto_region 1 with fail
  refine gen (F := fun W => (W.cell? ⟨w.heap.size, 0, none⟩ = some (.slice A0 x.chans.length c0) ∧ W.cell? ⟨w.heap.size, 1, none⟩ = some (.bool x.common) ∧ W.cell? ⟨w.heap.size, 2, none⟩ = some (.int .i64 x.mask) ∧ W.cell? ⟨w.heap.size, 3, none⟩ = some (.slice A1 x.bands.length c1) ∧ W.cell? ⟨w.heap.size, 4, none⟩ = some (.slice A2 x.fill.length c2)) ∧ (W.cell? ⟨w.heap.size + 1, 0, none⟩ = some (.slice D0 y.chans.length e0) ∧ W.cell? ⟨w.heap.size + 1, 1, none⟩ = some (.bool y.common) ∧ W.cell? ⟨w.heap.size + 1, 2, none⟩ = some (.int .i64 y.mask) ∧ W.cell? ⟨w.heap.size + 1, 3, none⟩ = some (.slice D1 y.bands.length e1) ∧ W.cell? ⟨w.heap.size + 1, 4, none⟩ = some (.slice D2 y.fill.length e2)) ∧ Hid (W.heap.size = w.heap.size + 2) ∧ Below w.heap.size w W) ⟨?_, ?_, ?_, ?_⟩ ?_
  · simp [go_sem]
  · simp [go_sem]
  · exact Lib.hid (by simp)
  · exact (by repeat (first | with_reducible exact Below.refl _ _ | with_reducible assumption | with_reducible refine Below.drew ?_ | with_reducible refine below_drewN ?_ _ | (with_reducible refine Below.alloc ?_ ?_ _; rotate_left 1; focus (first | (simp; done) | (simp; omega) | omega)) | (with_reducible refine Below.setCell ?_ ?_ _; rotate_left 1; focus (first | (simp; done) | (simp; omega) | omega))))
  rintro W ⟨⟨q0, q1, q2, q3, q4⟩, ⟨r0, r1, r2, r3, r4⟩, HN, hB0⟩
  have hn : w.heap.size < W.heap.size := by have := HN.out; omega
  have hn1 : w.heap.size + 1 < W.heap.size := by have := HN.out; omega
  go_wp2_with fail
  refine (great23 x _ _ W (Kd.K_below HX.out hB0)).mono ?_
  rintro e w1 ⟨⟨rfl, hT⟩ | rfl, hB1⟩
  rotate_left 1
  · have hB1' := below_then hB0 hB1
    go_wp2_with fail
    go_ret
    exact ⟨rfl, hB1'⟩
  have HT := Lib.hid hT.small
  have hk := (box_keep hB1 hn).1
  simp only [← hk] at q0 q1 q2 q3 q4
  have hk1 := (box_keep hB1 hn1).1
  simp only [← hk1] at r0 r1 r2 r3 r4
  replace hn := Nat.lt_of_lt_of_le hn hB1.size
  replace hn1 := Nat.lt_of_lt_of_le hn1 hB1.size
  replace hB0 := below_then hB0 hB1
  clear hk hk1 hT hB1
  go_wp2_with fail
  refine (great23 y _ _ w1 (Kd.K_below HY.out hB0)).mono ?_
  rintro e w2 ⟨⟨rfl, hT⟩ | rfl, hB1⟩
  rotate_left 1
  · have hB1' := below_then hB0 hB1
    go_wp2_with fail
    go_ret
    exact ⟨rfl, hB1'⟩
  have hk := (box_keep hB1 hn).1
  simp only [← hk] at q0 q1 q2 q3 q4
  have hk1 := (box_keep hB1 hn1).1
  simp only [← hk1] at r0 r1 r2 r3 r4
  replace hn := Nat.lt_of_lt_of_le hn hB1.size
  replace hn1 := Nat.lt_of_lt_of_le hn1 hB1.size
  replace hB0 := below_then hB0 hB1
  clear hk hk1 hT hB1
  go_wp2_with fail
  refine (raw_twin x _ _ w2 (Kd.K_below HX.out hB0) hB0.size HT.out).mono ?_
  rintro e w3 ⟨ts, rfl, hK, hB1⟩
  have HK := hK
  obtain ⟨B0, d0, B1, d1, B2, d2, rfl, ⟨g0, g0', hC0⟩, _, ⟨g1, g1', hC1⟩, ⟨g2, g2', hC2⟩⟩ := K_frm.1 HK
  have HC0 := Lib.hid hC0
  have HC1 := Lib.hid hC1
  have HC2 := Lib.hid hC2
  replace HK := Lib.hid HK
  have hk := (box_keep hB1 hn).1
  simp only [← hk] at q0 q1 q2 q3 q4
  have hk1 := (box_keep hB1 hn1).1
  simp only [← hk1] at r0 r1 r2 r3 r4
  have hB3 : Below w.heap.size w w3 := below_then hB0 hB1
  have hs3 := hB1.size
  have hw2 := hB0.size
  have hn3 := Nat.lt_of_lt_of_le hn hB1.size
  have hn31 := Nat.lt_of_lt_of_le hn1 hB1.size
  clear hk hk1 hB1 hK hC0 hC1 hC2
  go_upto_region 4 with fail
  refine gen (F := fun W => (W.cell? ⟨w.heap.size, 0, none⟩ = some (.slice A0 x.chans.length c0) ∧ W.cell? ⟨w.heap.size, 1, none⟩ = some (.bool x.common) ∧ W.cell? ⟨w.heap.size, 2, none⟩ = some (.int .i64 x.mask) ∧ W.cell? ⟨w.heap.size, 3, none⟩ = some (.slice A1 x.bands.length c1) ∧ W.cell? ⟨w.heap.size, 4, none⟩ = some (.slice A2 x.fill.length c2)) ∧ (W.cell? ⟨w.heap.size + 1, 0, none⟩ = some (.slice D0 y.chans.length e0) ∧ W.cell? ⟨w.heap.size + 1, 1, none⟩ = some (.bool y.common) ∧ W.cell? ⟨w.heap.size + 1, 2, none⟩ = some (.int .i64 y.mask) ∧ W.cell? ⟨w.heap.size + 1, 3, none⟩ = some (.slice D1 y.bands.length e1) ∧ W.cell? ⟨w.heap.size + 1, 4, none⟩ = some (.slice D2 y.fill.length e2)) ∧ (W.cell? ⟨w3.heap.size, 0, none⟩ = some (.slice B0 x.chans.length d0) ∧ W.cell? ⟨w3.heap.size, 1, none⟩ = some (.bool x.common) ∧ W.cell? ⟨w3.heap.size, 2, none⟩ = some (.int .i64 x.mask) ∧ W.cell? ⟨w3.heap.size, 3, none⟩ = some (.slice B1 x.bands.length d1) ∧ W.cell? ⟨w3.heap.size, 4, none⟩ = some (.slice B2 x.fill.length d2)) ∧ Hid (W.heap.size = w3.heap.size + 1) ∧ Below w3.heap.size w3 W) ⟨?_, ?_, ?_, ?_, ?_⟩ ?_
  · have hne : w3.heap.size ≠ w.heap.size := by omega
    simp [go_sem, hne, hn3, q0, q1, q2, q3, q4]
  · have hne : w3.heap.size ≠ w.heap.size + 1 := by omega
    simp [go_sem, hne, hn31, r0, r1, r2, r3, r4]
  · simp [go_sem]
  · exact Lib.hid (by simp)
  · exact (by repeat (first | with_reducible exact Below.refl _ _ | with_reducible assumption | with_reducible refine Below.drew ?_ | with_reducible refine below_drewN ?_ _ | (with_reducible refine Below.alloc ?_ ?_ _; rotate_left 1; focus (first | (simp; done) | (simp; omega) | omega)) | (with_reducible refine Below.setCell ?_ ?_ _; rotate_left 1; focus (first | (simp; done) | (simp; omega) | omega))))
  clear q0 q1 q2 q3 q4 r0 r1 r2 r3 r4
  rintro W ⟨⟨q0, q1, q2, q3, q4⟩, ⟨r0, r1, r2, r3, r4⟩, ⟨t0, t1, t2, t3, t4⟩, HN3, hB4⟩
  have hB40 := below_then hB3 hB4
  have hxx := sameB_self x
  have htW : w3.heap.size < W.heap.size := by have := HN3.out; omega
  have hnW : w.heap.size < W.heap.size := by omega
  have hn1W : w.heap.size + 1 < W.heap.size := by omega
  refine wp_region_late (S := fun w' => (w'.cell? ⟨w.heap.size, 0, none⟩ = some (.slice A0 x.chans.length c0) ∧ w'.cell? ⟨w.heap.size, 1, none⟩ = some (.bool x.common) ∧ w'.cell? ⟨w.heap.size, 2, none⟩ = some (.int .i64 x.mask) ∧ w'.cell? ⟨w.heap.size, 3, none⟩ = some (.slice A1 x.bands.length c1) ∧ w'.cell? ⟨w.heap.size, 4, none⟩ = some (.slice A2 x.fill.length c2)) ∧ (w'.cell? ⟨w.heap.size + 1, 0, none⟩ = some (.slice D0 y.chans.length e0) ∧ w'.cell? ⟨w.heap.size + 1, 1, none⟩ = some (.bool y.common) ∧ w'.cell? ⟨w.heap.size + 1, 2, none⟩ = some (.int .i64 y.mask) ∧ w'.cell? ⟨w.heap.size + 1, 3, none⟩ = some (.slice D1 y.bands.length e1) ∧ w'.cell? ⟨w.heap.size + 1, 4, none⟩ = some (.slice D2 y.fill.length e2)) ∧ (w'.cell? ⟨w3.heap.size, 0, none⟩ = some (.slice B0 x.chans.length d0) ∧ w'.cell? ⟨w3.heap.size, 1, none⟩ = some (.bool x.common) ∧ w'.cell? ⟨w3.heap.size, 2, none⟩ = some (.int .i64 x.mask) ∧ w'.cell? ⟨w3.heap.size, 3, none⟩ = some (.slice B1 x.bands.length d1) ∧ w'.cell? ⟨w3.heap.size, 4, none⟩ = some (.slice B2 x.fill.length d2))) (D := [0, 1, 3, 4, 6, 7, 8, 9]) (by kernel_rfl) rfl ⟨⟨q0, q1, q2, q3, q4⟩, ⟨r0, r1, r2, r3, r4⟩, ⟨t0, t1, t2, t3, t4⟩⟩ (fun hHeld => ?_)
  (refine late_take (i := 0) (v := ?_) rfl (by kernel_rfl) (by kernel_rfl) (by kernel_rfl) (by kernel_rfl) (fun _ _ _ h => h) (Or.inl ⟨by rfl, ?_⟩) (by assumption) ?_; rotate_left 1; focus (intro w hSw; (try dsimp only at hSw); go_simp; try (with_reducible rfl)); (try simp only [List.getElem_toArray, List.getElem_cons_succ, List.getElem_cons_zero]); (try simp only [Act.put, List.setIfInBounds_toArray, List.set_cons_zero, List.set_cons_succ]))
  (refine late_take (i := 1) (v := ?_) rfl (by kernel_rfl) (by kernel_rfl) (by kernel_rfl) (by kernel_rfl) (fun _ _ _ h => h) (Or.inl ⟨by rfl, ?_⟩) (by assumption) ?_; rotate_left 1; focus (intro w hSw; (try dsimp only at hSw); go_simp; try (with_reducible rfl)); (try simp only [List.getElem_toArray, List.getElem_cons_succ, List.getElem_cons_zero]); (try simp only [Act.put, List.setIfInBounds_toArray, List.set_cons_zero, List.set_cons_succ]))
  (refine late_take (i := 3) (v := ?_) rfl (by kernel_rfl) (by kernel_rfl) (by kernel_rfl) (by kernel_rfl) (fun _ _ _ h => h) (Or.inl ⟨by rfl, ?_⟩) (by assumption) ?_; rotate_left 1; focus (intro w hSw; (try dsimp only at hSw); go_simp; try (with_reducible rfl)); (try simp only [List.getElem_toArray, List.getElem_cons_succ, List.getElem_cons_zero]); (try simp only [Act.put, List.setIfInBounds_toArray, List.set_cons_zero, List.set_cons_succ]))
  (refine late_take (i := 4) (v := ?_) rfl (by kernel_rfl) (by kernel_rfl) (by kernel_rfl) (by kernel_rfl) (fun _ _ _ h => h) (Or.inl ⟨by rfl, ?_⟩) (by assumption) ?_; rotate_left 1; focus (intro w hSw; (try dsimp only at hSw); go_simp; try (with_reducible rfl)); (try simp only [List.getElem_toArray, List.getElem_cons_succ, List.getElem_cons_zero]); (try simp only [Act.put, List.setIfInBounds_toArray, List.set_cons_zero, List.set_cons_succ]))
  (refine late_only (i := 2) (by kernel_rfl) rfl (by rfl) (fun K hK => ?_); go_simp)
  refine (raw_same x y _ _ _ W.drew (Kd.K_below HX.out hB40.drew) (Kd.K_below HY.out hB40.drew)).mono ?_
  rintro e w5 ⟨rfl, hB5⟩
  have hB5 := below_of_drew hB5
  (refine hK.out _ _ ?_ (fun hHeld => ?_); rotate_left 1; (try clear hK); (try clear K); (try simp only [List.getElem_toArray, List.getElem_cons_succ, List.getElem_cons_zero]); (try simp only [Act.put, List.setIfInBounds_toArray, List.set_cons_zero, List.set_cons_succ]); rotate_left 1; focus ((simp only [(box_keep hB5 hnW).1, (box_keep hB5 hn1W).1, (box_keep hB5 htW).1]; exact hHeld)))
  have hB50 := below_then hB40 hB5
  have hs5 := hB5.size
  (refine late_only (i := 5) (by kernel_rfl) rfl (by rfl) (fun K hK => ?_); go_simp)
  refine (ref_frm x y _ _ _ w5 (Kd.K_below HX.out hB50) (Kd.K_below HY.out hB50)).mono ?_
  rintro e w6 ⟨rfl, hB6⟩
  (refine hK.out _ _ ?_ (fun hHeld => ?_); rotate_left 1; (try clear hK); (try clear K); (try simp only [List.getElem_toArray, List.getElem_cons_succ, List.getElem_cons_zero]); (try simp only [Act.put, List.setIfInBounds_toArray, List.set_cons_zero, List.set_cons_succ]); rotate_left 1; focus ((simp only [(box_keep hB6 (Nat.lt_of_lt_of_le hnW hs5)).1, (box_keep hB6 (Nat.lt_of_lt_of_le hn1W hs5)).1, (box_keep hB6 (Nat.lt_of_lt_of_le htW hs5)).1]; exact hHeld)))
  have hB60 := below_then hB50 hB6
  have hB36 := below_then hB4 (below_then hB5 hB6)
  have hs6 := hB6.size
  (refine late_take (i := 6) (v := ?_) rfl (by kernel_rfl) (by kernel_rfl) (by kernel_rfl) (by kernel_rfl) (fun _ _ _ h => h) (Or.inl ⟨by rfl, ?_⟩) (by assumption) ?_; rotate_left 1; focus (intro w hSw; (try dsimp only at hSw); go_simp; try (with_reducible rfl)); (try simp only [List.getElem_toArray, List.getElem_cons_succ, List.getElem_cons_zero]); (try simp only [Act.put, List.setIfInBounds_toArray, List.set_cons_zero, List.set_cons_succ]))
  (refine late_take (i := 7) (v := ?_) rfl (by kernel_rfl) (by kernel_rfl) (by kernel_rfl) (by kernel_rfl) (fun _ _ _ h => h) (Or.inl ⟨by rfl, ?_⟩) (by assumption) ?_; rotate_left 1; focus (intro w hSw; (try dsimp only at hSw); go_simp; try (with_reducible rfl)); (try simp only [List.getElem_toArray, List.getElem_cons_succ, List.getElem_cons_zero]); (try simp only [Act.put, List.setIfInBounds_toArray, List.set_cons_zero, List.set_cons_succ]))
  (refine late_take (i := 8) (v := ?_) rfl (by kernel_rfl) (by kernel_rfl) (by kernel_rfl) (by kernel_rfl) (fun _ _ _ h => h) (Or.inl ⟨by rfl, ?_⟩) (by assumption) ?_; rotate_left 1; focus (intro w hSw; (try dsimp only at hSw); go_simp; try (with_reducible rfl)); (try simp only [List.getElem_toArray, List.getElem_cons_succ, List.getElem_cons_zero]); (try simp only [Act.put, List.setIfInBounds_toArray, List.set_cons_zero, List.set_cons_succ]))
  (refine late_take (i := 9) (v := ?_) rfl (by kernel_rfl) (by kernel_rfl) (by kernel_rfl) (by kernel_rfl) (fun _ _ _ h => h) (Or.inl ⟨by rfl, ?_⟩) (by assumption) ?_; rotate_left 1; focus (intro w hSw; (try dsimp only at hSw); go_simp; try (with_reducible rfl)); (try simp only [List.getElem_toArray, List.getElem_cons_succ, List.getElem_cons_zero]); (try simp only [Act.put, List.setIfInBounds_toArray, List.set_cons_zero, List.set_cons_succ]))
  (refine late_only (i := 10) (by kernel_rfl) rfl (by rfl) (fun K hK => ?_); go_simp)
  have lz : Zn.le (Zn.new w2) ⟨0, w.heap.size⟩ := ⟨Nat.zero_le _, Nat.zero_le _⟩
  refine (ref_frm x x _ _ _ w6 (kFrm.mono lz (Kd.K_below HK.out hB36)) (Kd.K_below HX.out hB60)).mono ?_
  rintro e w7 ⟨rfl, hB7⟩
  have hs56 := Nat.le_trans hs5 hs6
  (refine hK.out _ _ ?_ (fun hHeld => ?_); rotate_left 1; (try clear hK); (try clear K); (try simp only [List.getElem_toArray, List.getElem_cons_succ, List.getElem_cons_zero]); (try simp only [Act.put, List.setIfInBounds_toArray, List.set_cons_zero, List.set_cons_succ]); rotate_left 1; focus ((simp only [(box_keep hB7 (Nat.lt_of_lt_of_le hnW hs56)).1, (box_keep hB7 (Nat.lt_of_lt_of_le hn1W hs56)).1, (box_keep hB7 (Nat.lt_of_lt_of_le htW hs56)).1]; exact hHeld)))
  have hB70 := below_then hB60 hB7
  have hB37 := below_then hB36 hB7
  have hs7 := hB7.size
  (refine late_only (i := 11) (by kernel_rfl) rfl (by rfl) (fun K hK => ?_); go_simp)
  (refine hK.out _ _ ?_ (fun hHeld => ?_); rotate_left 1; (try clear hK); (try clear K); (try simp only [List.getElem_toArray, List.getElem_cons_succ, List.getElem_cons_zero]); (try simp only [Act.put, List.setIfInBounds_toArray, List.set_cons_zero, List.set_cons_succ]); rotate_left 1; focus (exact hHeld))
  (refine late_only (i := 12) (by kernel_rfl) rfl (by rfl) (fun K hK => ?_); go_simp)
  (refine hK.out _ _ ?_ (fun hHeld => ?_); rotate_left 1; (try clear hK); (try clear K); (try simp only [List.getElem_toArray, List.getElem_cons_succ, List.getElem_cons_zero]); (try simp only [Act.put, List.setIfInBounds_toArray, List.set_cons_zero, List.set_cons_succ]); rotate_left 1; focus (exact hHeld))
  refine late_done (by kernel_rfl) ?_
  clear q0 q1 q2 q3 q4 r0 r1 r2 r3 r4 t0 t1 t2 t3 t4 lz
  obtain ⟨⟨q0, q1, q2, q3, q4⟩, _, t0, t1, t2, t3, t4⟩ := hHeld
  have hn7 : w.heap.size < w7.heap.size := by omega
  have ht7 : w3.heap.size < w7.heap.size := by omega
  go_wp2_with fail
  refine (ref23_twin x _ _ w7 (Kd.K_below HX.out hB70) hB70.size HT.out).mono ?_
  rintro e w8 ⟨us, rfl, hK, hB8⟩
  have HU := hK
  obtain ⟨F0, f0, F1, f1, F2, f2, rfl, _⟩ := K_frm.1 HU
  replace HU := Lib.hid HU
  have hk := (box_keep hB8 hn7).1
  simp only [← hk] at q0 q1 q2 q3 q4
  have hk1 := (box_keep hB8 ht7).1
  simp only [← hk1] at t0 t1 t2 t3 t4
  have hB80 := below_then hB70 hB8
  have hB38 := below_then hB37 hB8
  have hs8 := hB8.size
  have hw7 := hB70.size
  clear hk hk1 hK hB4 hB40 hB5 hB50 hB6 hB60 hB7 hB36 hB37 hB70 hB8
  have hn8 : w.heap.size < w8.heap.size := by omega
  have ht8 : w3.heap.size < w8.heap.size := by omega
  go_upto_region 6 with fail
  refine gen (F := fun W => (W.cell? ⟨w.heap.size, 0, none⟩ = some (.slice A0 x.chans.length c0) ∧ W.cell? ⟨w.heap.size, 1, none⟩ = some (.bool x.common) ∧ W.cell? ⟨w.heap.size, 2, none⟩ = some (.int .i64 x.mask) ∧ W.cell? ⟨w.heap.size, 3, none⟩ = some (.slice A1 x.bands.length c1) ∧ W.cell? ⟨w.heap.size, 4, none⟩ = some (.slice A2 x.fill.length c2)) ∧ (W.cell? ⟨w3.heap.size, 0, none⟩ = some (.slice B0 x.chans.length d0) ∧ W.cell? ⟨w3.heap.size, 1, none⟩ = some (.bool x.common) ∧ W.cell? ⟨w3.heap.size, 2, none⟩ = some (.int .i64 x.mask) ∧ W.cell? ⟨w3.heap.size, 3, none⟩ = some (.slice B1 x.bands.length d1) ∧ W.cell? ⟨w3.heap.size, 4, none⟩ = some (.slice B2 x.fill.length d2)) ∧ (W.cell? ⟨w8.heap.size, 0, none⟩ = some (.slice F0 x.chans.length f0) ∧ W.cell? ⟨w8.heap.size, 1, none⟩ = some (.bool x.common) ∧ W.cell? ⟨w8.heap.size, 2, none⟩ = some (.int .i64 x.mask) ∧ W.cell? ⟨w8.heap.size, 3, none⟩ = some (.slice F1 x.bands.length f1) ∧ W.cell? ⟨w8.heap.size, 4, none⟩ = some (.slice F2 x.fill.length f2)) ∧ Hid (W.heap.size = w8.heap.size + 1) ∧ Below w8.heap.size w8 W) ⟨?_, ?_, ?_, ?_, ?_⟩ ?_
  · have hne : w8.heap.size ≠ w.heap.size := by omega
    simp [go_sem, hne, hn8, q0, q1, q2, q3, q4]
  · have hne : w8.heap.size ≠ w3.heap.size := by omega
    simp [go_sem, hne, ht8, t0, t1, t2, t3, t4]
  · simp [go_sem]
  · exact Lib.hid (by simp)
  · exact (by repeat (first | with_reducible exact Below.refl _ _ | with_reducible assumption | with_reducible refine Below.drew ?_ | with_reducible refine below_drewN ?_ _ | (with_reducible refine Below.alloc ?_ ?_ _; rotate_left 1; focus (first | (simp; done) | (simp; omega) | omega)) | (with_reducible refine Below.setCell ?_ ?_ _; rotate_left 1; focus (first | (simp; done) | (simp; omega) | omega))))
  clear q0 q1 q2 q3 q4 t0 t1 t2 t3 t4
  rintro WS ⟨⟨q0, q1, q2, q3, q4⟩, ⟨t0, t1, t2, t3, t4⟩, ⟨u0, u1, u2, u3, u4⟩, HNS, hBS⟩
  have HM := Lib.hid (Mild.start (h := w2.heap.size) (below_then hB38 hBS))
  have hS3 := (below_then hB38 hBS).size
  have hBwS := below_then hB80 hBS
  have HXS := Lib.hid (Kd.K_below HX.out hBwS)
  have HUS := Lib.hid (Kd.K_below HU.out hBS)
  have hs78 : w3.heap.size < w7.heap.size := ht7
  clear hB38 hBS HU
  have HC0' : Hid (kChn.C 37 ⟨w2.heap.size, 0⟩ w3 B0 x.chans) := HC0
  have HC1' : Hid ((Kd.sl 4 Kd.bool).C 38 ⟨w2.heap.size, 0⟩ w3 B1 x.bands) := HC1
  have HC2' : Hid (U8.C 5 ⟨w2.heap.size, 0⟩ w3 B2 x.fill) := HC2
  clear HC0 HC1 HC2
  have hmx0 : x.chans.length ≤ 9223372036854775807 := by simp only [maxLen] at g0'; omega
  have hmx1 : x.bands.length ≤ 9223372036854775807 := by simp only [maxLen] at g1'; omega
  have hmx2 : x.fill.length ≤ 9223372036854775807 := by simp only [maxLen] at g2'; omega
  go_wp2_with fail
  go_loopw [8, 9] (fun i _ wr => ∃ k : Nat, k ≤ x.chans.length ∧ i = .int .i64 k ∧ Hid (Mild w2.heap.size w3 WS wr)) (fun i _ _ => x.chans.length - (intOf i).toNat)
  case atStart => exact ⟨0, Nat.zero_le _, rfl, HM⟩
  case round =>
    obtain ⟨k, hk, rfl, HR⟩ := hrel
    have p0 := (HR.out.box (Nat.le_refl w3.heap.size) 0).trans t0
    by_cases hlt : k < x.chans.length
    · obtain ⟨g, o, cs, hA, hg, ht, hK, hcs⟩ := Kd.C_new HC0'.out default hlt
      subst hA
      obtain ⟨E0, e0', E1, e1', E2, e2', E3, e3', E4, e4', rfl, _, _, _, _, _, hl, hm, hL⟩ := K_chn.1 hK
      have hi0 := hcs 0 _ rfl
      have hi8 := hcs 8 _ rfl
      simp only [show kChn.sz = 9 from rfl, ← Nat.add_assoc, Nat.add_zero] at hi0 hi8
      have HL := Lib.hid hL
      clear hK hcs hL
      generalize x.chans.getD k default = X at *
      have hmX : X.lines.length ≤ 9223372036854775807 := by simp only [maxLen] at hm; omega
      obtain ⟨⟨v0, hv0, hl0⟩, hf0⟩ := HR.out.cell hg ht hi0
      obtain ⟨m0, rfl⟩ := hl0.int
      have hk0 : (0 : Int) ≤ (k : Int) := by omega
      have hk1 : (k : Int) < (x.chans.length : Int) := by omega
      go_upto_region 10 with fail
      refine gen (F := fun wr => Hid (Mild w2.heap.size w3 WS wr)) (Lib.hid (HR.out.set hg ht hi0 (.inr (.inl ⟨_, _, _, rfl, rfl⟩)))) ?_
      rintro Wi HRi
      clear p0 hv0 hf0 HR hl0
      go_wp2_with fail
      go_loopw [9] (fun j wr => ∃ q : Nat, q ≤ X.lines.length ∧ j = .int .i64 q ∧ Hid (Mild w2.heap.size w3 WS wr)) (fun j _ => X.lines.length - (intOf j).toNat)
      case atStart => exact ⟨0, Nat.zero_le _, rfl, HRi⟩
      case round =>
        obtain ⟨q, hq, rfl, HQ⟩ := hrel
        have p0 := (HQ.out.box (Nat.le_refl w3.heap.size) 0).trans t0
        obtain ⟨⟨v8, hv8, hl8⟩, _⟩ := HQ.out.cell hg ht hi8
        have hs8 := hl8.slice
        subst hs8
        by_cases hql : q < X.lines.length
        · obtain ⟨g4, o4, hA4, hg4, ht4, hc4⟩ := Kd.C_new_int HL.out hql
          subst hA4
          obtain ⟨⟨v4, hv4, hl4⟩, hf4⟩ := HQ.out.cell hg4 ht4 hc4
          obtain ⟨m4, rfl⟩ := hl4.int
          have hq0 : (0 : Int) ≤ (q : Int) := by omega
          have hq1 : (q : Int) < (X.lines.length : Int) := by omega
          go_wp2_with fail
          go_roundw
          case rel => exact ⟨q + 1, by omega, by go_num, Lib.hid (HQ.out.set hg4 ht4 hc4 (.inr (.inl ⟨_, _, _, rfl, rfl⟩)))⟩
          case measure => simp [intOf]; omega
        · obtain rfl : q = X.lines.length := by omega
          go_wp2_with fail
          go_roundw
          case rel => exact ⟨k + 1, by omega, by go_num, HQ⟩
          case measure => simp [intOf]; omega
    · obtain rfl : k = x.chans.length := by omega
      clear hlt HM
      have HM := HR
      clear HR
      go_wp2_with fail
      go_loopw [10, 11] (fun i _ wr => ∃ k : Nat, k ≤ x.bands.length ∧ i = .int .i64 k ∧ Hid (Mild w2.heap.size w3 WS wr)) (fun i _ _ => x.bands.length - (intOf i).toNat)
      case atStart => exact ⟨0, Nat.zero_le _, rfl, HM⟩
      case round =>
        obtain ⟨k, hk, rfl, HR⟩ := hrel
        have p3 := (HR.out.box (Nat.le_refl w3.heap.size) 3).trans t3
        by_cases hlt : k < x.bands.length
        · obtain ⟨g, o, A', c', hA, hg, ht, hc, hl, hm, hC⟩ := Kd.C_new_sl HC1'.out hlt
          subst hA
          have HL := Lib.hid hC
          clear hC
          generalize x.bands.getD k [] = X at *
          have hmX : X.length ≤ 9223372036854775807 := by simp only [maxLen] at hm; omega
          have hk0 : (0 : Int) ≤ (k : Int) := by omega
          have hk1 : (k : Int) < (x.bands.length : Int) := by omega
          go_wp2_with fail
          go_loopw [11] (fun j wr => ∃ q : Nat, q ≤ X.length ∧ j = .int .i64 q ∧ Hid (Mild w2.heap.size w3 WS wr)) (fun j _ => X.length - (intOf j).toNat)
          case atStart => exact ⟨0, Nat.zero_le _, rfl, HR⟩
          case round =>
            clear p3
            obtain ⟨q, hq, rfl, HQ⟩ := hrel
            have p3 := (HQ.out.box (Nat.le_refl w3.heap.size) 3).trans t3
            obtain ⟨⟨v8, hv8, hl8⟩, _⟩ := HQ.out.cell hg ht hc
            have hs8 := hl8.slice
            subst hs8
            by_cases hql : q < X.length
            · obtain ⟨g4, o4, hA4, hg4, ht4, hc4⟩ := Kd.C_new_bool HL.out hql
              subst hA4
              obtain ⟨⟨v4, hv4, hl4⟩, hf4⟩ := HQ.out.cell hg4 ht4 hc4
              obtain ⟨m4, rfl⟩ := hl4.bool
              have hq0 : (0 : Int) ≤ (q : Int) := by omega
              have hq1 : (q : Int) < (X.length : Int) := by omega
              go_wp2_with fail
              refine wp_region_late (S := fun w' => w'.cell? ⟨w3.heap.size, 3, none⟩ = some (.slice (some ⟨g, o, none⟩) x.bands.length d1) ∧ w'.cell? ⟨g, o + k, none⟩ = some (.slice (some ⟨g4, o4, none⟩) X.length c') ∧ w'.cell? ⟨g4, o4 + q, none⟩ = some (.bool m4)) (D := [0, 1, 2, 3, 4, 5, 6, 7, 8, 9, 10, 11, 12, 13, 14, 15]) (by kernel_rfl) rfl (by simp [*]) (fun hHeld => ?_)
              (refine late_take (i := 0) (v := ?_) rfl (by kernel_rfl) (by kernel_rfl) (by kernel_rfl) (by kernel_rfl) (fun _ _ _ h => h) (Or.inl ⟨by rfl, ?_⟩) (by assumption) ?_; rotate_left 1; focus (intro w hSw; (try dsimp only at hSw); go_simp; try (with_reducible rfl)); (try simp only [List.getElem_toArray, List.getElem_cons_succ, List.getElem_cons_zero]); (try simp only [Act.put, List.setIfInBounds_toArray, List.set_cons_zero, List.set_cons_succ]))
              (refine late_take (i := 1) (v := ?_) rfl (by kernel_rfl) (by kernel_rfl) (by kernel_rfl) (by kernel_rfl) (fun _ _ _ h => h) (Or.inl ⟨by rfl, ?_⟩) (by assumption) ?_; rotate_left 1; focus (intro w hSw; (try dsimp only at hSw); go_simp; try (with_reducible rfl)); (try simp only [List.getElem_toArray, List.getElem_cons_succ, List.getElem_cons_zero]); (try simp only [Act.put, List.setIfInBounds_toArray, List.set_cons_zero, List.set_cons_succ]))
              (refine late_take (i := 2) (v := ?_) rfl (by kernel_rfl) (by kernel_rfl) (by kernel_rfl) (by kernel_rfl) (fun _ _ _ h => h) (Or.inl ⟨by rfl, ?_⟩) (by assumption) ?_; rotate_left 1; focus (intro w hSw; (try dsimp only at hSw); go_simp; try (with_reducible rfl)); (try simp only [List.getElem_toArray, List.getElem_cons_succ, List.getElem_cons_zero]); (try simp only [Act.put, List.setIfInBounds_toArray, List.set_cons_zero, List.set_cons_succ]))
              (refine late_take (i := 3) (v := ?_) rfl (by kernel_rfl) (by kernel_rfl) (by kernel_rfl) (by kernel_rfl) (fun _ _ _ h => h) (Or.inl ⟨by rfl, ?_⟩) (by assumption) ?_; rotate_left 1; focus (intro w hSw; (try dsimp only at hSw); go_simp; try (with_reducible rfl)); (try simp only [List.getElem_toArray, List.getElem_cons_succ, List.getElem_cons_zero]); (try simp only [Act.put, List.setIfInBounds_toArray, List.set_cons_zero, List.set_cons_succ]))
              (refine late_take (i := 4) (v := ?_) rfl (by kernel_rfl) (by kernel_rfl) (by kernel_rfl) (by kernel_rfl) (fun _ _ _ h => h) (Or.inl ⟨by rfl, ?_⟩) (by assumption) ?_; rotate_left 1; focus (intro w hSw; (try dsimp only at hSw); go_simp; try (with_reducible rfl)); (try simp only [List.getElem_toArray, List.getElem_cons_succ, List.getElem_cons_zero]); (try simp only [Act.put, List.setIfInBounds_toArray, List.set_cons_zero, List.set_cons_succ]))
              (refine late_take (i := 5) (v := ?_) rfl (by kernel_rfl) (by kernel_rfl) (by kernel_rfl) (by kernel_rfl) (fun _ _ _ h => h) (Or.inl ⟨by rfl, ?_⟩) (by assumption) ?_; rotate_left 1; focus (intro w hSw; (try dsimp only at hSw); go_simp; try (with_reducible rfl)); (try simp only [List.getElem_toArray, List.getElem_cons_succ, List.getElem_cons_zero]); (try simp only [Act.put, List.setIfInBounds_toArray, List.set_cons_zero, List.set_cons_succ]))
              (refine late_take (i := 6) (v := ?_) rfl (by kernel_rfl) (by kernel_rfl) (by kernel_rfl) (by kernel_rfl) (fun _ _ _ h => h) (Or.inl ⟨by rfl, ?_⟩) (by assumption) ?_; rotate_left 1; focus (intro w hSw; (try dsimp only at hSw); go_simp; try (with_reducible rfl)); (try simp only [List.getElem_toArray, List.getElem_cons_succ, List.getElem_cons_zero]); (try simp only [Act.put, List.setIfInBounds_toArray, List.set_cons_zero, List.set_cons_succ]))
              (refine late_take (i := 7) (v := ?_) rfl (by kernel_rfl) (by kernel_rfl) (by kernel_rfl) (by kernel_rfl) (fun _ _ _ h => h) (Or.inl ⟨by rfl, ?_⟩) (by assumption) ?_; rotate_left 1; focus (intro w hSw; (try dsimp only at hSw); go_simp; try (with_reducible rfl)); (try simp only [List.getElem_toArray, List.getElem_cons_succ, List.getElem_cons_zero]); (try simp only [Act.put, List.setIfInBounds_toArray, List.set_cons_zero, List.set_cons_succ]))
              (refine late_take (i := 8) (v := ?_) rfl (by kernel_rfl) (by kernel_rfl) (by kernel_rfl) (by kernel_rfl) (fun _ _ _ h => h) (Or.inl ⟨by rfl, ?_⟩) (by assumption) ?_; rotate_left 1; focus (intro w hSw; (try dsimp only at hSw); go_simp; try (with_reducible rfl)); (try simp only [List.getElem_toArray, List.getElem_cons_succ, List.getElem_cons_zero]); (try simp only [Act.put, List.setIfInBounds_toArray, List.set_cons_zero, List.set_cons_succ]))
              (refine late_take (i := 9) (v := ?_) rfl (by kernel_rfl) (by kernel_rfl) (by kernel_rfl) (by kernel_rfl) (fun _ _ _ h => h) (Or.inl ⟨by rfl, ?_⟩) (by assumption) ?_; rotate_left 1; focus (intro w hSw; (try dsimp only at hSw); go_simp; try (with_reducible rfl)); (try simp only [List.getElem_toArray, List.getElem_cons_succ, List.getElem_cons_zero]); (try simp only [Act.put, List.setIfInBounds_toArray, List.set_cons_zero, List.set_cons_succ]))
              (refine late_take (i := 10) (v := ?_) rfl (by kernel_rfl) (by kernel_rfl) (by kernel_rfl) (by kernel_rfl) (fun _ _ _ h => h) (Or.inl ⟨by rfl, ?_⟩) (by assumption) ?_; rotate_left 1; focus (intro w hSw; (try dsimp only at hSw); go_simp; try (with_reducible rfl)); (try simp only [List.getElem_toArray, List.getElem_cons_succ, List.getElem_cons_zero]); (try simp only [Act.put, List.setIfInBounds_toArray, List.set_cons_zero, List.set_cons_succ]))
              (refine late_take (i := 11) (v := ?_) rfl (by kernel_rfl) (by kernel_rfl) (by kernel_rfl) (by kernel_rfl) (fun _ _ _ h => h) (Or.inl ⟨by rfl, ?_⟩) (by assumption) ?_; rotate_left 1; focus (intro w hSw; (try dsimp only at hSw); go_simp; try (with_reducible rfl)); (try simp only [List.getElem_toArray, List.getElem_cons_succ, List.getElem_cons_zero]); (try simp only [Act.put, List.setIfInBounds_toArray, List.set_cons_zero, List.set_cons_succ]))
              (refine late_take (i := 12) (v := ?_) rfl (by kernel_rfl) (by kernel_rfl) (by kernel_rfl) (by kernel_rfl) (fun _ _ _ h => h) (Or.inl ⟨by rfl, ?_⟩) (by assumption) ?_; rotate_left 1; focus (intro w hSw; (try dsimp only at hSw); go_simp; try (with_reducible rfl)); (try simp only [List.getElem_toArray, List.getElem_cons_succ, List.getElem_cons_zero]); (try simp only [Act.put, List.setIfInBounds_toArray, List.set_cons_zero, List.set_cons_succ]))
              (refine late_take (i := 13) (v := ?_) rfl (by kernel_rfl) (by kernel_rfl) (by kernel_rfl) (by kernel_rfl) (fun _ _ _ h => h) (Or.inl ⟨by rfl, ?_⟩) (by assumption) ?_; rotate_left 1; focus (intro w hSw; (try dsimp only at hSw); go_simp; try (with_reducible rfl)); (try simp only [List.getElem_toArray, List.getElem_cons_succ, List.getElem_cons_zero]); (try simp only [Act.put, List.setIfInBounds_toArray, List.set_cons_zero, List.set_cons_succ]))
              (refine late_take (i := 14) (v := ?_) rfl (by kernel_rfl) (by kernel_rfl) (by kernel_rfl) (by kernel_rfl) (fun _ _ _ h => h) (Or.inl ⟨by rfl, ?_⟩) (by assumption) ?_; rotate_left 1; focus (intro w hSw; (try dsimp only at hSw); go_simp; try (with_reducible rfl)); (try simp only [List.getElem_toArray, List.getElem_cons_succ, List.getElem_cons_zero]); (try simp only [Act.put, List.setIfInBounds_toArray, List.set_cons_zero, List.set_cons_succ]))
              (refine late_take (i := 15) (v := ?_) rfl (by kernel_rfl) (by kernel_rfl) (by kernel_rfl) (by kernel_rfl) (fun _ _ _ h => h) (Or.inl ⟨by rfl, ?_⟩) (by assumption) ?_; rotate_left 1; focus (intro w hSw; (try dsimp only at hSw); go_simp; try (with_reducible rfl)); (try simp only [List.getElem_toArray, List.getElem_cons_succ, List.getElem_cons_zero]); (try simp only [Act.put, List.setIfInBounds_toArray, List.set_cons_zero, List.set_cons_succ]))
              obtain ⟨z0, z1, z2⟩ := hHeld
              (refine late_last (i := 16) (by kernel_rfl) rfl (by rfl) (by kernel_rfl) (fun K hK => ?_); go_simp)
              (refine hK.out _ _ ?_; clear hK; clear K; (try simp only [List.getElem_toArray, List.getElem_cons_succ, List.getElem_cons_zero]); (try simp only [Act.put, List.setIfInBounds_toArray, List.set_cons_zero, List.set_cons_succ]))
              refine late_done (by kernel_rfl) ?_
              go_wp2_with fail
              go_roundw
              case rel => exact ⟨q + 1, by omega, by go_num, Lib.hid (HQ.out.drew.set hg4 ht4 hc4 (.inr (.inr ⟨_, _, rfl, rfl⟩)))⟩
              case measure => simp [intOf]; omega
            · obtain rfl : q = X.length := by omega
              go_wp2_with fail
              go_roundw
              case rel => exact ⟨k + 1, by omega, by go_num, HQ⟩
              case measure => simp [intOf]; omega
        · obtain rfl : k = x.bands.length := by omega
          clear hlt HM
          have HM := HR
          clear HR
          go_wp2_with fail
          go_loopw [12] (fun i wr => ∃ k : Nat, k ≤ x.fill.length ∧ i = .int .i64 k ∧ Hid (Mild w2.heap.size w3 WS wr)) (fun i _ => x.fill.length - (intOf i).toNat)
          case atStart => exact ⟨0, Nat.zero_le _, rfl, HM⟩
          case round =>
            obtain ⟨k, hk, rfl, HR⟩ := hrel
            have p4 := (HR.out.box (Nat.le_refl w3.heap.size) 4).trans t4
            by_cases hlt : k < x.fill.length
            · obtain ⟨g4, o4, hA4, hg4, ht4, hc4⟩ := Kd.C_new_int HC2'.out hlt
              subst hA4
              obtain ⟨⟨v4, hv4, hl4⟩, hf4⟩ := HR.out.cell hg4 ht4 hc4
              obtain ⟨m4, rfl⟩ := hl4.int
              have hq0 : (0 : Int) ≤ (k : Int) := by omega
              have hq1 : (k : Int) < (x.fill.length : Int) := by omega
              go_wp2_with fail
              go_roundw
              case rel => exact ⟨k + 1, by omega, by go_num, Lib.hid (HR.out.set hg4 ht4 hc4 (.inr (.inl ⟨_, _, _, rfl, rfl⟩)))⟩
              case measure => simp [intOf]; omega
            · obtain rfl : k = x.fill.length := by omega
              clear hlt HM
              have z0 := (same_cell ((HR.out.low.block w.heap.size (by omega)))).1
              have zq0 := (z0 0).trans q0
              have zq1 := (z0 1).trans q1
              have zq2 := (z0 2).trans q2
              have zq3 := (z0 3).trans q3
              have zq4 := (z0 4).trans q4
              have z8 := HR.out.box (show w3.heap.size ≤ w8.heap.size by omega)
              have zu0 := (z8 0).trans u0
              have zu1 := (z8 1).trans u1
              have zu2 := (z8 2).trans u2
              have zu3 := (z8 3).trans u3
              have zu4 := (z8 4).trans u4
              have hBr := hBwS.trans (HR.out.low.mono hw2)
              clear z0 z8 q0 q1 q2 q3 q4 u0 u1 u2 u3 u4 t0 t1 t2 t3 t4
              have lz : Zn.le (Zn.new w7) ⟨0, w.heap.size⟩ := ⟨Nat.zero_le _, Nat.zero_le _⟩
              go_wp2_with fail
              refine (ref_frm x x _ _ _ wr (Kd.K_below HX.out hBr) (kFrm.mono lz (kFrm.chg (fun k' hk' => HR.out.high k' (by obtain ⟨t, _, hz⟩ := hk'; have := hz.1; simp only [Zn.new] at this; omega)) HUS.out))).mono ?_
              rintro e w9 ⟨rfl, hB9⟩
              have hB90 := below_then hBr hB9
              go_wp2_with fail
              go_ret
              exact ⟨rfl, hB90⟩
end Go.Proofs.Ytagihamgaidikaa
