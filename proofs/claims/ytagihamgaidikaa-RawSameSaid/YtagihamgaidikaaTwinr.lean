/- raw.Twin: a frame in new memory. -/
import Derived.Test.YtagihamgaidikaaPut
set_option linter.unusedVariables false
set_option linter.unusedSimpArgs false
namespace Go.Proofs.Ytagihamgaidikaa
open Go.RowKit
/-- No list of a frame is beyond what append can hold. -/
structure Frm.Small (x : Frm) : Prop where
  c : x.chans.length ≤ 100000000000
  cs : ∀ i, i < x.chans.length → (x.chans.getD i default).Small
  b : x.bands.length ≤ 100000000000
  bs : ∀ i, (x.bands.getD i []).length ≤ 100000000000
  f : x.fill.length ≤ 100000000000
theorem O_u8 {e : Nat} {b : Zn} {base : Nat} {w : World} {v : Value} {xs : List Int} (h : U8.O e b base w v xs) (y : Zn) (hy : y.lo ≤ base) :
    ∃ A c, v = .slice A xs.length c ∧ xs.length ≤ c ∧ c ≤ maxLen ∧ U8.C e y w A xs := Kd.O_flat (h1 := fun _ => rfl) h y hy
theorem zone_to {Y b : Zn} {k : Nat} : (fun j => if j = k then Y else if j < k then Y else b) = (fun j => if j < k + 1 then Y else b) := by
  funext j
  by_cases h1 : j = k
  · simp [h1]
  · have h2 : j < k ↔ j < k + 1 := by omega
    simp [h1, h2]
theorem setCells9 (w : World) (g o : Nat) (v0 v1 v2 v3 v4 v5 v6 v7 v8 : Value) : w.setCells g o [v0, v1, v2, v3, v4, v5, v6, v7, v8] =
    ((((((((w.setCell ⟨g, o, none⟩ v0).setCell ⟨g, o + 1, none⟩ v1).setCell ⟨g, o + 2, none⟩ v2).setCell ⟨g, o + 3, none⟩ v3).setCell ⟨g, o + 4, none⟩ v4).setCell ⟨g, o + 5, none⟩ v5).setCell ⟨g, o + 6, none⟩ v6).setCell ⟨g, o + 7, none⟩ v7).setCell ⟨g, o + 8, none⟩ v8 := by
  simp only [World.setCells]
theorem set_same {α : Type} {xs : List α} {k : Nat} {x : α} (h : xs[k]? = some x) : xs.set k x = xs := by
  obtain ⟨hl, rfl⟩ := List.getElem?_eq_some_iff.1 h
  exact set_getD hl
set_option maxHeartbeats 1000000
theorem raw_twin (x : Frm) (cs : List Value) (b : Zn) (w : World) (hx : kFrm.K b w x cs) (hb : b.hi ≤ w.heap.size) (hs : x.Small) :
    Calls Try.prog 5 #[.agg cs.toArray] w fun e w' => ∃ ds, e = .returned (.agg ds.toArray) ∧ kFrm.K (Zn.new w) w' x ds ∧ Below w.heap.size w w' := by
  obtain ⟨A0, c0, A1, c1, A2, c2, rfl, ⟨_, hm0, hC0⟩, r2, ⟨_, hm1, hC1⟩, ⟨_, hm2, hC2⟩⟩ := K_frm.1 hx
  obtain ⟨xc, x1, x2, xb, xf⟩ := x
  obtain ⟨s0, s1, s2, s3, s4⟩ := hs
  have hu := Try.underlying26
  have hu2 := Try.underlying37
  dsimp only at hC0 hC1 hC2 r2 s0 s1 s2 s3 s4
  clear hx
  have KEY0 := Lib.hid fun W' (hW' : Below w.heap.size w W') => clone_chan A0 c0 b xc W' (Kd.C_below hC0 hW') (Nat.le_trans hb hW'.size) (by omega)
  have KEY1 := Lib.hid fun W' (hW' : Below w.heap.size w W') => clone_bands A1 c1 b xb W' (Kd.C_below hC1 hW') (Nat.le_trans hb hW'.size) (by omega)
  have KEY2 := Lib.hid fun W' (hW' : Below w.heap.size w W') => clone_u8 A2 c2 b xf W' (Kd.C_below hC2 hW') (Nat.le_trans hb hW'.size) (by omega)
  have HS1 := Lib.hid s1
  have HS3 := Lib.hid s3
  clear hC0 hC1 hC2 s1 s3
  go_enter Try.func5, Try.ntmps5
  go_wp2_with fail
  refine gen (F := fun W => (∀ o, W.frozen? ⟨w.heap.size, o, none⟩ = false) ∧ (∀ o, W.frozen? ⟨w.heap.size + 1, o, none⟩ = false) ∧ (W.cell? ⟨w.heap.size, 0, none⟩ = some (.slice A0 xc.length c0) ∧ W.cell? ⟨w.heap.size, 1, none⟩ = some (.bool x1) ∧ W.cell? ⟨w.heap.size, 2, none⟩ = some (.int .i64 x2) ∧ W.cell? ⟨w.heap.size, 3, none⟩ = some (.slice A1 xb.length c1) ∧ W.cell? ⟨w.heap.size, 4, none⟩ = some (.slice A2 xf.length c2)) ∧ (W.cell? ⟨w.heap.size + 1, 0, none⟩ = some (.slice none 0 0) ∧ W.cell? ⟨w.heap.size + 1, 1, none⟩ = some (.bool false) ∧ W.cell? ⟨w.heap.size + 1, 2, none⟩ = some (.int .i64 0) ∧ W.cell? ⟨w.heap.size + 1, 3, none⟩ = some (.slice none 0 0) ∧ W.cell? ⟨w.heap.size + 1, 4, none⟩ = some (.slice none 0 0)) ∧ Hid (W.heap.size = w.heap.size + 2 ∧ ∃ cur, W.heap[w.heap.size]? = some (.cells cur 26 (0, 0))) ∧ Below w.heap.size w W) ⟨?_, ?_, ?_, ?_, ?_, ?_⟩ ?_
  · intro o; simp [go_sem]
  · intro o; simp [go_sem]
  · simp [go_sem]
  · simp [go_sem]
  · exact Lib.hid ⟨by simp, _, alloc2_old _ _ _⟩
  · exact (by repeat (first | with_reducible exact Below.refl _ _ | with_reducible assumption | with_reducible refine Below.drew ?_ | with_reducible refine below_drewN ?_ _ | (with_reducible refine Below.alloc ?_ ?_ _; rotate_left 1; focus (first | (simp; done) | (simp; omega) | omega)) | (with_reducible refine Below.setCell ?_ ?_ _; rotate_left 1; focus (first | (simp; done) | (simp; omega) | omega))))
  rintro W ⟨hf1, hf2, ⟨q0, q1, q2, q3, q4⟩, ⟨r0, r1, r2, r3, r4⟩, HN, hBW⟩
  have hn : w.heap.size < W.heap.size := by have := HN.out.1; omega
  have hn1 : w.heap.size + 1 < W.heap.size := by have := HN.out.1; omega
  refine wp_region_late (S := fun w' => w'.cell? ⟨w.heap.size, 0, none⟩ = some (.slice A0 xc.length c0) ∧ w'.cell? ⟨w.heap.size, 1, none⟩ = some (.bool x1) ∧ w'.cell? ⟨w.heap.size, 2, none⟩ = some (.int .i64 x2) ∧ w'.cell? ⟨w.heap.size, 3, none⟩ = some (.slice A1 xb.length c1) ∧ w'.cell? ⟨w.heap.size, 4, none⟩ = some (.slice A2 xf.length c2)) (D := [0, 1, 3, 4, 6, 7, 9]) (by kernel_rfl) rfl (by simp [go_sem, *]) (fun hHeld => ?_)
  (refine late_take (i := 0) (v := ?_) rfl (by kernel_rfl) (by kernel_rfl) (by kernel_rfl) (by kernel_rfl) (fun _ _ _ h => h) (Or.inl ⟨by rfl, ?_⟩) (by assumption) ?_; rotate_left 1; focus (intro w hSw; (try dsimp only at hSw); go_simp; try (with_reducible rfl)); (try simp only [List.getElem_toArray, List.getElem_cons_succ, List.getElem_cons_zero]); (try simp only [Act.put, List.setIfInBounds_toArray, List.set_cons_zero, List.set_cons_succ]))
  (refine late_take (i := 1) (v := ?_) rfl (by kernel_rfl) (by kernel_rfl) (by kernel_rfl) (by kernel_rfl) (fun _ _ _ h => h) (Or.inl ⟨by rfl, ?_⟩) (by assumption) ?_; rotate_left 1; focus (intro w hSw; (try dsimp only at hSw); go_simp; try (with_reducible rfl)); (try simp only [List.getElem_toArray, List.getElem_cons_succ, List.getElem_cons_zero]); (try simp only [Act.put, List.setIfInBounds_toArray, List.set_cons_zero, List.set_cons_succ]))
  (refine late_take (i := 3) (v := ?_) rfl (by kernel_rfl) (by kernel_rfl) (by kernel_rfl) (by kernel_rfl) (fun _ _ _ h => h) (Or.inl ⟨by rfl, ?_⟩) (by assumption) ?_; rotate_left 1; focus (intro w hSw; (try dsimp only at hSw); go_simp; try (with_reducible rfl)); (try simp only [List.getElem_toArray, List.getElem_cons_succ, List.getElem_cons_zero]); (try simp only [Act.put, List.setIfInBounds_toArray, List.set_cons_zero, List.set_cons_succ]))
  (refine late_take (i := 4) (v := ?_) rfl (by kernel_rfl) (by kernel_rfl) (by kernel_rfl) (by kernel_rfl) (fun _ _ _ h => h) (Or.inl ⟨by rfl, ?_⟩) (by assumption) ?_; rotate_left 1; focus (intro w hSw; (try dsimp only at hSw); go_simp; try (with_reducible rfl)); (try simp only [List.getElem_toArray, List.getElem_cons_succ, List.getElem_cons_zero]); (try simp only [Act.put, List.setIfInBounds_toArray, List.set_cons_zero, List.set_cons_succ]))
  (refine late_take (i := 6) (v := ?_) rfl (by kernel_rfl) (by kernel_rfl) (by kernel_rfl) (by kernel_rfl) (fun _ _ _ h => h) (Or.inl ⟨by rfl, ?_⟩) (by assumption) ?_; rotate_left 1; focus (intro w hSw; (try dsimp only at hSw); go_simp; try (with_reducible rfl)); (try simp only [List.getElem_toArray, List.getElem_cons_succ, List.getElem_cons_zero]); (try simp only [Act.put, List.setIfInBounds_toArray, List.set_cons_zero, List.set_cons_succ]))
  (refine late_take (i := 7) (v := ?_) rfl (by kernel_rfl) (by kernel_rfl) (by kernel_rfl) (by kernel_rfl) (fun _ _ _ h => h) (Or.inl ⟨by rfl, ?_⟩) (by assumption) ?_; rotate_left 1; focus (intro w hSw; (try dsimp only at hSw); go_simp; try (with_reducible rfl)); (try simp only [List.getElem_toArray, List.getElem_cons_succ, List.getElem_cons_zero]); (try simp only [Act.put, List.setIfInBounds_toArray, List.set_cons_zero, List.set_cons_succ]))
  (refine late_only (i := 2) (by kernel_rfl) rfl (by rfl) (fun K hK => ?_); go_simp)
  refine (KEY0.out _ hBW.drew).mono ?_
  rintro e w1 ⟨v0, rfl, hO, hB⟩
  have hBT := below_of_drew hB
  have HO0 := Lib.hid (Kd.O_mono (base' := w.heap.size + 2) hO ⟨Nat.le_refl _, Nat.le_refl _⟩ (Nat.le_of_eq HN.out.1.symm))
  (refine hK.out _ _ ?_ (fun hHeld => ?_); rotate_left 1; (try clear hK); (try clear K); (try simp only [List.getElem_toArray, List.getElem_cons_succ, List.getElem_cons_zero]); (try simp only [Act.put, List.setIfInBounds_toArray, List.set_cons_zero, List.set_cons_succ]); rotate_left 1; focus ((simp only [(box_keep hBT hn).1]; exact hHeld)))
  clear hO hB
  (refine late_take (i := 9) (v := ?_) rfl (by kernel_rfl) (by kernel_rfl) (by kernel_rfl) (by kernel_rfl) (fun _ _ _ h => h) (Or.inl ⟨by rfl, ?_⟩) (by assumption) ?_; rotate_left 1; focus (intro w hSw; (try dsimp only at hSw); go_simp; try (with_reducible rfl)); (try simp only [List.getElem_toArray, List.getElem_cons_succ, List.getElem_cons_zero]); (try simp only [Act.put, List.setIfInBounds_toArray, List.set_cons_zero, List.set_cons_succ]))
  (refine late_only (i := 5) (by kernel_rfl) rfl (by rfl) (fun K hK => ?_); go_simp)
  refine (KEY1.out _ (below_then hBW hBT)).mono ?_
  rintro e w2 ⟨v1, rfl, hO, hB⟩
  have HO02 := Lib.hid (Kd.O_below HO0.out hB)
  have HO1 := Lib.hid (Kd.O_mono (base' := w.heap.size + 2) hO ⟨Nat.le_refl _, Nat.le_refl _⟩ (by have := HN.out.1; have := hBT.size; omega))
  have hBT2 := below_then hBT hB
  (refine hK.out _ _ ?_ (fun hHeld => ?_); rotate_left 1; (try clear hK); (try clear K); (try simp only [List.getElem_toArray, List.getElem_cons_succ, List.getElem_cons_zero]); (try simp only [Act.put, List.setIfInBounds_toArray, List.set_cons_zero, List.set_cons_succ]); rotate_left 1; focus ((simp only [(box_keep hB (Nat.lt_of_lt_of_le hn hBT.size)).1]; exact hHeld)))
  clear HO0 hO hB
  (refine late_only (i := 8) (by kernel_rfl) rfl (by rfl) (fun K hK => ?_); go_simp)
  refine (KEY2.out _ (below_then hBW hBT2)).mono ?_
  rintro e w3 ⟨v2, rfl, hO, hB⟩
  obtain ⟨B2, d2, rfl, hg2, hd2, hO⟩ := O_u8 hO ⟨w.heap.size + 2, 0⟩ (by have := HN.out.1; have := hBT2.size; dsimp only; omega)
  obtain ⟨B0, d0, rfl, hg0, hd0⟩ := Kd.O_slice HO02.out
  obtain ⟨B1, d1, rfl, hg1, hd1⟩ := Kd.O_slice HO1.out
  have HO03 := Lib.hid (Kd.O_below HO02.out hB)
  have HO13 := Lib.hid (Kd.O_below HO1.out hB)
  have HO23 := Lib.hid hO
  have hBT3 := below_then hBT2 hB
  (refine hK.out _ _ ?_ (fun hHeld => ?_); rotate_left 1; (try clear hK); (try clear K); (try simp only [List.getElem_toArray, List.getElem_cons_succ, List.getElem_cons_zero]); (try simp only [Act.put, List.setIfInBounds_toArray, List.set_cons_zero, List.set_cons_succ]); rotate_left 1; focus ((simp only [(box_keep hB (Nat.lt_of_lt_of_le hn hBT2.size)).1]; exact hHeld)))
  clear HO02 HO1 hO hB hBT hBT2
  have hbk : ∀ o, w3.cell? ⟨w.heap.size + 1, o, none⟩ = W.cell? ⟨w.heap.size + 1, o, none⟩ := (box_keep hBT3 hn1).1
  have hfk1 : ∀ o, w3.frozen? ⟨w.heap.size, o, none⟩ = false := fun o => ((box_keep hBT3 hn).2 o).trans (hf1 o)
  have hfk2 : ∀ o, w3.frozen? ⟨w.heap.size + 1, o, none⟩ = false := fun o => ((box_keep hBT3 hn1).2 o).trans (hf2 o)
  simp only [← hbk] at r0 r1 r2 r3 r4
  obtain ⟨p0, p1, p2, p3, p4⟩ := hHeld
  clear hbk
  (refine late_last (i := 10) (by kernel_rfl) rfl (by rfl) (by kernel_rfl) (fun K hK => ?_); go_simp)
  (refine hK.out _ _ ?_; clear hK; clear K; (try simp only [List.getElem_toArray, List.getElem_cons_succ, List.getElem_cons_zero]); (try simp only [Act.put, List.setIfInBounds_toArray, List.set_cons_zero, List.set_cons_succ]))
  (refine late_last (i := 11) (by kernel_rfl) rfl (by rfl) (by kernel_rfl) (fun K hK => ?_); go_simp)
  (refine hK.out _ _ ?_; clear hK; clear K; (try simp only [List.getElem_toArray, List.getElem_cons_succ, List.getElem_cons_zero]); (try simp only [Act.put, List.setIfInBounds_toArray, List.set_cons_zero, List.set_cons_succ]))
  (refine late_last (i := 12) (by kernel_rfl) rfl (by rfl) (by kernel_rfl) (fun K hK => ?_); go_simp)
  (refine hK.out _ _ ?_; clear hK; clear K; (try simp only [List.getElem_toArray, List.getElem_cons_succ, List.getElem_cons_zero]); (try simp only [Act.put, List.setIfInBounds_toArray, List.set_cons_zero, List.set_cons_succ]))
  (refine late_last (i := 13) (by kernel_rfl) rfl (by rfl) (by kernel_rfl) (fun K hK => ?_); go_simp)
  (refine hK.out _ _ ?_; clear hK; clear K; (try simp only [List.getElem_toArray, List.getElem_cons_succ, List.getElem_cons_zero]); (try simp only [Act.put, List.setIfInBounds_toArray, List.set_cons_zero, List.set_cons_succ]))
  (refine late_last (i := 14) (by kernel_rfl) rfl (by rfl) (by kernel_rfl) (fun K hK => ?_); go_simp)
  (refine hK.out _ _ ?_; clear hK; clear K; (try simp only [List.getElem_toArray, List.getElem_cons_succ, List.getElem_cons_zero]); (try simp only [Act.put, List.setIfInBounds_toArray, List.set_cons_zero, List.set_cons_succ]))
  refine late_done (by kernel_rfl) ?_
  refine gen (F := fun W6 => Hid (w3.grownBy W6 (some w.heap.size) ∧ ∀ k, w.heap.size + 2 ≤ k → W6.heap[k]? = w3.heap[k]?) ∧ (W6.cell? ⟨w.heap.size, 0, none⟩ = some (.slice B0 xc.length d0) ∧ W6.cell? ⟨w.heap.size, 1, none⟩ = some (.bool x1) ∧ W6.cell? ⟨w.heap.size, 2, none⟩ = some (.int .i64 x2) ∧ W6.cell? ⟨w.heap.size, 3, none⟩ = some (.slice B1 xb.length d1) ∧ W6.cell? ⟨w.heap.size, 4, none⟩ = some (.slice B2 xf.length d2)) ∧ (W6.cell? ⟨w.heap.size + 1, 0, none⟩ = some (.slice none 0 0) ∧ W6.cell? ⟨w.heap.size + 1, 1, none⟩ = some (.bool false) ∧ W6.cell? ⟨w.heap.size + 1, 2, none⟩ = some (.int .i64 0) ∧ W6.cell? ⟨w.heap.size + 1, 3, none⟩ = some (.slice none 0 0) ∧ W6.cell? ⟨w.heap.size + 1, 4, none⟩ = some (.slice none 0 0)) ∧ (∀ o, W6.frozen? ⟨w.heap.size, o, none⟩ = false) ∧ (∀ o, W6.frozen? ⟨w.heap.size + 1, o, none⟩ = false)) ⟨Lib.hid ⟨?_, ?_⟩, ?_, ?_, ?_, ?_⟩ ?_
  · repeat (first | with_reducible exact grown_refl _ _ | with_reducible refine grown_set ?_ _ _)
  · repeat (first | with_reducible refine hi_set ?_ _ _ (by simp) | with_reducible exact hi_refl _ _)
  · simp [go_sem, *]
  · simp [go_sem, *]
  · intro o; simp [go_sem, hfk1]
  · intro o; simp [go_sem, hfk2]
  rintro W6 ⟨HG, ⟨t0, t1, t2, t3, t4⟩, ⟨y0, y1, y2, y3, y4⟩, hfm1, hfm2⟩
  have hn5 : ∃ cur, w3.heap[w.heap.size]? = some (.cells cur 26 (0, 0)) := by
    obtain ⟨cur, hc⟩ := HN.out.2
    exact ⟨cur, (hBT3.block _ hn).trans hc⟩
  have hs6 : w.heap.size + 2 ≤ W6.heap.size := by have := HN.out.1; have := hBT3.size; have := HG.out.1.size; omega
  have HT := Lib.hid (show (kChn.OZ 37 (fun _ => b) (w.heap.size + 2) W6 (.slice B0 xc.length d0) xc) from Kd.OZ_of (Kd.O_box HO03.out (t := 26) (by decide) hb (by omega) hn5 HG.out.1))
  have HR := Lib.hid (show ((Kd.sl 4 Kd.bool).O 38 b (w.heap.size + 2) W6 (.slice B1 xb.length d1) xb ∧ U8.C 5 ⟨w.heap.size + 2, 0⟩ W6 B2 xf) from ⟨Kd.O_box HO13.out (t := 26) (by decide) hb (by omega) hn5 HG.out.1, Kd.C_box HO23.out (by decide) (Nat.zero_le _) hn5 HG.out.1⟩)
  have hB6 : Below w.heap.size w W6 := (below_then hBW hBT3).trans (grown_below HG.out.1 (Nat.le_refl _) (by have := hBT3.size; omega))
  clear HO03 HO13 HO23 HG hn5 hBT3 hfk1 hfk2 r0 r1 r2 r3 r4 p0 p1 p2 p3 p4 q0 q1 q2 q3 q4 hf1 hf2 hn hn1 HN hBW KEY0 KEY1 KEY2
  have hmx : xc.length ≤ 9223372036854775807 := by omega
  have hmy : xb.length ≤ 9223372036854775807 := by omega
  go_wp2_with fail
  go_loopw [3, 20] (fun _ i wr => ∃ k : Nat, k ≤ xc.length ∧ i = .int .i64 k ∧ Hid (kChn.OZ 37 (fun j => if j < k then ⟨w.heap.size + 2, 0⟩ else b) (w.heap.size + 2) wr (.slice B0 xc.length d0) xc) ∧ Hid ((Kd.sl 4 Kd.bool).O 38 b (w.heap.size + 2) wr (.slice B1 xb.length d1) xb ∧ U8.C 5 ⟨w.heap.size + 2, 0⟩ wr B2 xf) ∧ Below (w.heap.size + 2) W6 wr) (fun _ i _ => xc.length - (intOf i).toNat)
  case atStart => exact ⟨0, Nat.zero_le _, rfl, by simpa using HT, HR, Below.refl _ _⟩
  case round =>
    clear HR HT
    obtain ⟨k, hk, rfl, HT, HR, hB⟩ := hrel
    have hsr := hB.size
    have hcw := box_keep6 hB (show w.heap.size < w.heap.size + 2 by omega)
    have hcv := box_keep6 hB (show w.heap.size + 1 < w.heap.size + 2 by omega)
    simp only [← hcw.1] at t0 t1 t2 t3 t4
    simp only [← hcv.1] at y0 y1 y2 y3 y4
    simp only [← hcw.2] at hfm1
    simp only [← hcv.2] at hfm2
    clear hcw hcv
    by_cases hlt : k < xc.length
    · rcases Kd.OZ_form HT.out with ⟨_, h0⟩ | ⟨g, cap', hv, hgl1, hgl2, _, _⟩
      · exact absurd hlt (by simp [h0])
      injection hv with hv hv2 hv3
      subst hv
      subst hv3
      obtain ⟨cs, hK, hcs, hfz, _, _⟩ := Kd.OZ_at HT.out hlt
      rw [if_neg (by omega)] at hK
      obtain ⟨E0, e0, E1, e1, E2, e2, E3, e3, E4, e4, rfl, _⟩ := K_chn.1 hK
      have hi := fun j u hu => hcs j u hu
      simp only [show kChn.sz = 9 from rfl] at hi
      have h0 := hi 0 _ rfl
      rw [Nat.add_zero] at h0
      have h1 := hi 1 _ rfl
      have h2 := hi 2 _ rfl
      have h3 := hi 3 _ rfl
      have h4 := hi 4 _ rfl
      have h5 := hi 5 _ rfl
      have h6 := hi 6 _ rfl
      have h7 := hi 7 _ rfl
      have h8 := hi 8 _ rfl
      have hsm := HS1.out k hlt
      rw [show xc.getD k default = xc[k] by simp [List.getD_eq_getElem?_getD, hlt]] at hsm
      have key := lane_twin xc[k] _ b wr.drew (Kd.K_below hK (Below.refl _ _).drew) (by show b.hi ≤ wr.heap.size; omega) hsm
      have KY := Lib.hid key
      have HX := Lib.hid (List.getElem?_eq_getElem hlt)
      clear key hK hcs hi hsm
      generalize xc[k] = X at *
      obtain ⟨X0, ⟨X1, X2, X3, X4⟩, X5, X6, X7, X8⟩ := X
      dsimp only at h0 h1 h2 h3 h4 h5 h6 h7 h8 KY
      go_wp2_with fail
      have hk0 : (0 : Int) ≤ (k : Int) := by omega
      have hk1 : (k : Int) < (xc.length : Int) := by omega
      refine wp_region_late (S := fun w' => w'.cell? ⟨w.heap.size, 0, none⟩ = some (.slice (some ⟨g, 0, none⟩) xc.length d0) ∧ w'.cell? ⟨g, k * 9, none⟩ = some (.int .i64 X0) ∧ w'.cell? ⟨g, k * 9 + 1, none⟩ = some (.int .u8 X1) ∧ w'.cell? ⟨g, k * 9 + 2, none⟩ = some (.int .u8 X2) ∧ w'.cell? ⟨g, k * 9 + 3, none⟩ = some (.int .i64 X3) ∧ w'.cell? ⟨g, k * 9 + 4, none⟩ = some (.slice E0 X4.length e0) ∧ w'.cell? ⟨g, k * 9 + 5, none⟩ = some (.slice E1 X5.length e1) ∧ w'.cell? ⟨g, k * 9 + 6, none⟩ = some (.slice E2 X6.length e2) ∧ w'.cell? ⟨g, k * 9 + 7, none⟩ = some (.slice E3 X7.length e3) ∧ w'.cell? ⟨g, k * 9 + 8, none⟩ = some (.slice E4 X8.length e4)) (D := [0, 1, 2, 3, 4, 5, 6, 7]) (by kernel_rfl) rfl (by simp [*]) (fun hHeld => ?_)
      (refine late_take (i := 0) (v := ?_) rfl (by kernel_rfl) (by kernel_rfl) (by kernel_rfl) (by kernel_rfl) (fun _ _ _ h => h) (Or.inl ⟨by rfl, ?_⟩) (by assumption) ?_; rotate_left 1; focus (intro w hSw; (try dsimp only at hSw); go_simp; try (with_reducible rfl)); (try simp only [List.getElem_toArray, List.getElem_cons_succ, List.getElem_cons_zero]); (try simp only [Act.put, List.setIfInBounds_toArray, List.set_cons_zero, List.set_cons_succ]))
      (refine late_take (i := 1) (v := ?_) rfl (by kernel_rfl) (by kernel_rfl) (by kernel_rfl) (by kernel_rfl) (fun _ _ _ h => h) (Or.inl ⟨by rfl, ?_⟩) (by assumption) ?_; rotate_left 1; focus (intro w hSw; (try dsimp only at hSw); go_simp; try (with_reducible rfl)); (try simp only [List.getElem_toArray, List.getElem_cons_succ, List.getElem_cons_zero]); (try simp only [Act.put, List.setIfInBounds_toArray, List.set_cons_zero, List.set_cons_succ]))
      (refine late_take (i := 2) (v := ?_) rfl (by kernel_rfl) (by kernel_rfl) (by kernel_rfl) (by kernel_rfl) (fun _ _ _ h => h) (Or.inl ⟨by rfl, ?_⟩) (by assumption) ?_; rotate_left 1; focus (intro w hSw; (try dsimp only at hSw); go_simp; try (with_reducible rfl)); (try simp only [List.getElem_toArray, List.getElem_cons_succ, List.getElem_cons_zero]); (try simp only [Act.put, List.setIfInBounds_toArray, List.set_cons_zero, List.set_cons_succ]))
      (refine late_take (i := 3) (v := ?_) rfl (by kernel_rfl) (by kernel_rfl) (by kernel_rfl) (by kernel_rfl) (fun _ _ _ h => h) (Or.inl ⟨by rfl, ?_⟩) (by assumption) ?_; rotate_left 1; focus (intro w hSw; (try dsimp only at hSw); go_simp; try (with_reducible rfl)); (try simp only [List.getElem_toArray, List.getElem_cons_succ, List.getElem_cons_zero]); (try simp only [Act.put, List.setIfInBounds_toArray, List.set_cons_zero, List.set_cons_succ]))
      (refine late_take (i := 4) (v := ?_) rfl (by kernel_rfl) (by kernel_rfl) (by kernel_rfl) (by kernel_rfl) (fun _ _ _ h => h) (Or.inl ⟨by rfl, ?_⟩) (by assumption) ?_; rotate_left 1; focus (intro w hSw; (try dsimp only at hSw); go_simp; try (with_reducible rfl)); (try simp only [List.getElem_toArray, List.getElem_cons_succ, List.getElem_cons_zero]); (try simp only [Act.put, List.setIfInBounds_toArray, List.set_cons_zero, List.set_cons_succ]))
      (refine late_take (i := 5) (v := ?_) rfl (by kernel_rfl) (by kernel_rfl) (by kernel_rfl) (by kernel_rfl) (fun _ _ _ h => h) (Or.inl ⟨by rfl, ?_⟩) (by assumption) ?_; rotate_left 1; focus (intro w hSw; (try dsimp only at hSw); go_simp; try (with_reducible rfl)); (try simp only [List.getElem_toArray, List.getElem_cons_succ, List.getElem_cons_zero]); (try simp only [Act.put, List.setIfInBounds_toArray, List.set_cons_zero, List.set_cons_succ]))
      (refine late_take (i := 6) (v := ?_) rfl (by kernel_rfl) (by kernel_rfl) (by kernel_rfl) (by kernel_rfl) (fun _ _ _ h => h) (Or.inl ⟨by rfl, ?_⟩) (by assumption) ?_; rotate_left 1; focus (intro w hSw; (try dsimp only at hSw); go_simp; try (with_reducible rfl)); (try simp only [List.getElem_toArray, List.getElem_cons_succ, List.getElem_cons_zero]); (try simp only [Act.put, List.setIfInBounds_toArray, List.set_cons_zero, List.set_cons_succ]))
      (refine late_take (i := 7) (v := ?_) rfl (by kernel_rfl) (by kernel_rfl) (by kernel_rfl) (by kernel_rfl) (fun _ _ _ h => h) (Or.inl ⟨by rfl, ?_⟩) (by assumption) ?_; rotate_left 1; focus (intro w hSw; (try dsimp only at hSw); go_simp; try (with_reducible rfl)); (try simp only [List.getElem_toArray, List.getElem_cons_succ, List.getElem_cons_zero]); (try simp only [Act.put, List.setIfInBounds_toArray, List.set_cons_zero, List.set_cons_succ]))
      (refine late_only (i := 8) (by kernel_rfl) rfl (by rfl) (fun K hK => ?_); go_simp)
      refine KY.out.mono ?_
      rintro e w' ⟨ds, rfl, hN, hB1⟩
      have hB2 := below_of_drew hB1
      have hcg := box_keep hB2 hgl2
      have hcn := box_keep hB2 (show w.heap.size < wr.heap.size by omega)
      have hNs : w.heap.size + 2 ≤ wr.heap.size := by omega
      have HN := Lib.hid (kChn.mono (show (Zn.new wr.drew).le ⟨w.heap.size + 2, 0⟩ from ⟨hNs, Nat.le_refl _⟩) hN)
      have HP := Lib.hid (Kd.OZ_put (Kd.OZ_below HT.out hB2) (by decide) (fun j _ => by split <;> (try dsimp only) <;> omega) (Nat.zero_le _) hlt HN.out)
      have HB2 := Lib.hid hB2
      obtain ⟨F0, f0, F1, f1, F2, f2, F3, f3, F4, f4, rfl, _⟩ := K_chn.1 hN
      dsimp only
      (refine hK.out _ _ ?_ (fun hHeld => ?_); rotate_left 1; (try clear hK); (try clear K); (try simp only [List.getElem_toArray, List.getElem_cons_succ, List.getElem_cons_zero]); (try simp only [Act.put, List.setIfInBounds_toArray, List.set_cons_zero, List.set_cons_succ]); rotate_left 1; focus ((simp only [hcg.1, hcn.1]; exact hHeld)))
      obtain ⟨p0, p1, p2, p3, p4, p5, p6, p7, p8, p9⟩ := hHeld
      have hfz2 : ∀ o, w'.frozen? ⟨g, o, none⟩ = false := fun o => (hcg.2 o).trans (hfz o)
      clear hcg hcn hB1 hB2 hN hfz
      (refine late_last (i := 9) (by kernel_rfl) rfl (by rfl) (by kernel_rfl) (fun K hK => ?_); go_simp)
      (refine hK.out _ _ ?_; clear hK; clear K; (try simp only [List.getElem_toArray, List.getElem_cons_succ, List.getElem_cons_zero]); (try simp only [Act.put, List.setIfInBounds_toArray, List.set_cons_zero, List.set_cons_succ]))
      (refine late_last (i := 10) (by kernel_rfl) rfl (by rfl) (by kernel_rfl) (fun K hK => ?_); go_simp)
      (refine hK.out _ _ ?_; clear hK; clear K; (try simp only [List.getElem_toArray, List.getElem_cons_succ, List.getElem_cons_zero]); (try simp only [Act.put, List.setIfInBounds_toArray, List.set_cons_zero, List.set_cons_succ]))
      refine late_done (by kernel_rfl) ?_
      go_wp2_with fail
      go_roundw
      case rel =>
        have hP := HP.out
        have hz0 := below_cells (k * 9) (Below.refl 0 w') (Nat.zero_le g) (vs := [.int .i64 X0, .int .u8 X1, .int .u8 X2, .int .i64 X3, .slice F0 X4.length f0, .slice F1 X5.length f1, .slice F2 X6.length f2, .slice F3 X7.length f3, .slice F4 X8.length f4])
        have hBn := below_cells (k * 9) (hB.trans (HB2.out.mono (by omega))) hgl1 (vs := [.int .i64 X0, .int .u8 X1, .int .u8 X2, .int .i64 X3, .slice F0 X4.length f0, .slice F1 X5.length f1, .slice F2 X6.length f2, .slice F3 X7.length f3, .slice F4 X8.length f4])
        simp only [show kChn.sz = 9 from rfl, setCells9, set_same HX.out, zone_to] at hP hz0 hBn
        have hR := HR.out
        exact ⟨k + 1, by omega, by go_num, Lib.hid hP.1, Lib.hid ⟨Kd.O_met (Kd.O_below hR.1 HB2.out) hz0.size (fun E hE y hy => hP.2 E (fun h => absurd (hE h) (by decide)) y hy) (by omega), Kd.C_chg (Kd.C_below hR.2 HB2.out) (hP.2 _ (by decide) _ (Nat.zero_le _))⟩, hBn⟩
      case measure => simp [intOf]; omega
    · obtain rfl : k = xc.length := by omega
      go_wp2_with fail
      obtain ⟨A5, d5, e5, _, _, hC⟩ := Kd.O_C (Kd.OZ_O (b := ⟨w.heap.size + 2, 0⟩) HT.out (fun j hj => by rw [if_pos hj]; exact ⟨Nat.le_refl _, Nat.le_refl _⟩)) (by decide) ⟨Nat.le_refl _, Nat.le_refl _⟩ (Nat.le_refl (w.heap.size + 2))
      injection e5 with e5 e6 e7
      subst e5
      clear e6 e7
      obtain ⟨vs, hO⟩ := Kd.OO_start (z := fun _ _ => b) HR.out.1
      have HRR := Lib.hid (show (kChn.C 37 ⟨w.heap.size + 2, 0⟩ wr B0 xc ∧ U8.C 5 ⟨w.heap.size + 2, 0⟩ wr B2 xf) from ⟨hC, HR.out.2⟩)
      have HT := Lib.hid hO
      have hB7 := hB6.trans (hB.mono (by omega))
      clear hC hO hB hB6
      obtain ⟨W7, h7⟩ : ∃ W7, wr = W7 := ⟨_, rfl⟩
      subst wr
      go_loopw [4, 37] (fun _ i wr => ∃ (k : Nat) (vs : List Value), k ≤ xb.length ∧ i = .int .i64 k ∧ Hid (Kd.bool.OO 4 38 b (fun _ _ => b) (w.heap.size + 2) k wr (.slice B1 xb.length d1) xb vs) ∧ Hid (kChn.C 37 ⟨w.heap.size + 2, 0⟩ wr B0 xc ∧ U8.C 5 ⟨w.heap.size + 2, 0⟩ wr B2 xf) ∧ Below (w.heap.size + 2) W7 wr) (fun _ i _ => xb.length - (intOf i).toNat)
      case atStart => exact ⟨0, vs, Nat.zero_le _, rfl, HT, HRR, Below.refl _ _⟩
      case round =>
        clear HRR HT HR
        obtain ⟨k, vs, hk, rfl, HT, HRR, hB⟩ := hrel
        have hsr2 := hB.size
        have hcw := box_keep6 hB (show w.heap.size < w.heap.size + 2 by omega)
        have hcv := box_keep6 hB (show w.heap.size + 1 < w.heap.size + 2 by omega)
        simp only [← hcw.1] at t0 t1 t2 t3 t4
        simp only [← hcv.1] at y0 y1 y2 y3 y4
        simp only [← hcw.2] at hfm1
        simp only [← hcv.2] at hfm2
        clear hcw hcv
        by_cases hlt : k < xb.length
        · rcases HT.out.form with ⟨_, h0⟩ | ⟨g, cap', hv, hgl1, hgl2, _, _, _⟩
          · exact absurd hlt (by simp [h0])
          injection hv with hv hv2 hv3
          subst hv
          subst hv3
          obtain ⟨u, hu, A', c', hu2, _, hc2, hC⟩ := HT.out.old k _ (Nat.le_refl _) (List.getElem?_eq_getElem hlt)
          injection hu2 with hu2
          subst hu2
          obtain ⟨h0, hf0⟩ := HT.out.cell hu
          have hsm := HS3.out k
          rw [show xb.getD k [] = xb[k] by simp [List.getD_eq_getElem?_getD, hlt]] at hsm
          have key := clone_bool A' c' b xb[k] wr.drew (Kd.C_below hC (Below.refl _ _).drew) (by show b.hi ≤ wr.heap.size; omega) (by omega)
          have KY := Lib.hid key
          have HX := Lib.hid (List.getElem?_eq_getElem hlt)
          clear key hC hsm hu
          generalize xb[k] = X at *
          go_wp2_with fail
          have hk0 : (0 : Int) ≤ (k : Int) := by omega
          have hk1 : (k : Int) < (xb.length : Int) := by omega
          refine wp_region_late (S := fun w' => w'.cell? ⟨w.heap.size, 3, none⟩ = some (.slice (some ⟨g, 0, none⟩) xb.length d1) ∧ w'.cell? ⟨g, k, none⟩ = some (.slice A' X.length c')) (D := [0, 1, 2, 3, 4, 5, 6, 7]) (by kernel_rfl) rfl (by simp [*]) (fun hHeld => ?_)
          (refine late_take (i := 0) (v := ?_) rfl (by kernel_rfl) (by kernel_rfl) (by kernel_rfl) (by kernel_rfl) (fun _ _ _ h => h) (Or.inl ⟨by rfl, ?_⟩) (by assumption) ?_; rotate_left 1; focus (intro w hSw; (try dsimp only at hSw); go_simp; try (with_reducible rfl)); (try simp only [List.getElem_toArray, List.getElem_cons_succ, List.getElem_cons_zero]); (try simp only [Act.put, List.setIfInBounds_toArray, List.set_cons_zero, List.set_cons_succ]))
          (refine late_take (i := 1) (v := ?_) rfl (by kernel_rfl) (by kernel_rfl) (by kernel_rfl) (by kernel_rfl) (fun _ _ _ h => h) (Or.inl ⟨by rfl, ?_⟩) (by assumption) ?_; rotate_left 1; focus (intro w hSw; (try dsimp only at hSw); go_simp; try (with_reducible rfl)); (try simp only [List.getElem_toArray, List.getElem_cons_succ, List.getElem_cons_zero]); (try simp only [Act.put, List.setIfInBounds_toArray, List.set_cons_zero, List.set_cons_succ]))
          (refine late_take (i := 2) (v := ?_) rfl (by kernel_rfl) (by kernel_rfl) (by kernel_rfl) (by kernel_rfl) (fun _ _ _ h => h) (Or.inl ⟨by rfl, ?_⟩) (by assumption) ?_; rotate_left 1; focus (intro w hSw; (try dsimp only at hSw); go_simp; try (with_reducible rfl)); (try simp only [List.getElem_toArray, List.getElem_cons_succ, List.getElem_cons_zero]); (try simp only [Act.put, List.setIfInBounds_toArray, List.set_cons_zero, List.set_cons_succ]))
          (refine late_take (i := 3) (v := ?_) rfl (by kernel_rfl) (by kernel_rfl) (by kernel_rfl) (by kernel_rfl) (fun _ _ _ h => h) (Or.inl ⟨by rfl, ?_⟩) (by assumption) ?_; rotate_left 1; focus (intro w hSw; (try dsimp only at hSw); go_simp; try (with_reducible rfl)); (try simp only [List.getElem_toArray, List.getElem_cons_succ, List.getElem_cons_zero]); (try simp only [Act.put, List.setIfInBounds_toArray, List.set_cons_zero, List.set_cons_succ]))
          (refine late_take (i := 4) (v := ?_) rfl (by kernel_rfl) (by kernel_rfl) (by kernel_rfl) (by kernel_rfl) (fun _ _ _ h => h) (Or.inl ⟨by rfl, ?_⟩) (by assumption) ?_; rotate_left 1; focus (intro w hSw; (try dsimp only at hSw); go_simp; try (with_reducible rfl)); (try simp only [List.getElem_toArray, List.getElem_cons_succ, List.getElem_cons_zero]); (try simp only [Act.put, List.setIfInBounds_toArray, List.set_cons_zero, List.set_cons_succ]))
          (refine late_take (i := 5) (v := ?_) rfl (by kernel_rfl) (by kernel_rfl) (by kernel_rfl) (by kernel_rfl) (fun _ _ _ h => h) (Or.inl ⟨by rfl, ?_⟩) (by assumption) ?_; rotate_left 1; focus (intro w hSw; (try dsimp only at hSw); go_simp; try (with_reducible rfl)); (try simp only [List.getElem_toArray, List.getElem_cons_succ, List.getElem_cons_zero]); (try simp only [Act.put, List.setIfInBounds_toArray, List.set_cons_zero, List.set_cons_succ]))
          (refine late_take (i := 6) (v := ?_) rfl (by kernel_rfl) (by kernel_rfl) (by kernel_rfl) (by kernel_rfl) (fun _ _ _ h => h) (Or.inl ⟨by rfl, ?_⟩) (by assumption) ?_; rotate_left 1; focus (intro w hSw; (try dsimp only at hSw); go_simp; try (with_reducible rfl)); (try simp only [List.getElem_toArray, List.getElem_cons_succ, List.getElem_cons_zero]); (try simp only [Act.put, List.setIfInBounds_toArray, List.set_cons_zero, List.set_cons_succ]))
          (refine late_take (i := 7) (v := ?_) rfl (by kernel_rfl) (by kernel_rfl) (by kernel_rfl) (by kernel_rfl) (fun _ _ _ h => h) (Or.inl ⟨by rfl, ?_⟩) (by assumption) ?_; rotate_left 1; focus (intro w hSw; (try dsimp only at hSw); go_simp; try (with_reducible rfl)); (try simp only [List.getElem_toArray, List.getElem_cons_succ, List.getElem_cons_zero]); (try simp only [Act.put, List.setIfInBounds_toArray, List.set_cons_zero, List.set_cons_succ]))
          (refine late_only (i := 8) (by kernel_rfl) rfl (by rfl) (fun K hK => ?_); go_simp)
          refine KY.out.mono ?_
          rintro e w' ⟨v, rfl, hO, hB1⟩
          have hB2 := below_of_drew hB1
          have hcg := box_keep hB2 hgl2
          have hcn := box_keep hB2 (show w.heap.size < wr.heap.size by omega)
          obtain ⟨Av, cv, rfl, _, _⟩ := Kd.O_slice hO
          have HO := Lib.hid hO
          have HB2 := Lib.hid hB2
          (refine hK.out _ _ ?_ (fun hHeld => ?_); rotate_left 1; (try clear hK); (try clear K); (try simp only [List.getElem_toArray, List.getElem_cons_succ, List.getElem_cons_zero]); (try simp only [Act.put, List.setIfInBounds_toArray, List.set_cons_zero, List.set_cons_succ]); rotate_left 1; focus ((simp only [hcg.1, hcn.1]; exact hHeld)))
          obtain ⟨p0, p1⟩ := hHeld
          have hfz2 : w'.frozen? ⟨g, k, none⟩ = false := (hcg.2 k).trans hf0
          clear hcg hcn hB1 hB2 hO hf0
          (refine late_last (i := 9) (by kernel_rfl) rfl (by rfl) (by kernel_rfl) (fun K hK => ?_); go_simp)
          (refine hK.out _ _ ?_; clear hK; clear K; (try simp only [List.getElem_toArray, List.getElem_cons_succ, List.getElem_cons_zero]); (try simp only [Act.put, List.setIfInBounds_toArray, List.set_cons_zero, List.set_cons_succ]))
          (refine late_last (i := 10) (by kernel_rfl) rfl (by rfl) (by kernel_rfl) (fun K hK => ?_); go_simp)
          (refine hK.out _ _ ?_; clear hK; clear K; (try simp only [List.getElem_toArray, List.getElem_cons_succ, List.getElem_cons_zero]); (try simp only [Act.put, List.setIfInBounds_toArray, List.set_cons_zero, List.set_cons_succ]))
          refine late_done (by kernel_rfl) ?_
          go_wp2_with fail
          go_roundw
          case rel =>
            have hOO := HT.out.below HB2.out
            have hmet : ∀ E, 38 ∉ E → ∀ k', (⟨w.heap.size + 2, 0⟩ : Zn).met E w' k' → (w'.setCell ⟨g, k, none⟩ (.slice Av X.length cv)).heap[k']? = w'.heap[k']? := fun E hE => Kd.met_own hOO.own hE (Nat.zero_le _) (by simpa [Value.ownBlock] using grown_set (grown_refl w' (some g)) k (.slice Av X.length cv))
            exact ⟨k + 1, _, by omega, by go_num, Lib.hid (hOO.set (by decide) (by decide) (by omega) (fun _ _ => by omega) HX.out (Kd.OZ_of HO.out) (by show w.heap.size + 2 ≤ wr.heap.size; omega) HT.out.low), Lib.hid ⟨Kd.C_chg (Kd.C_below HRR.out.1 HB2.out) (hmet _ (by decide)), Kd.C_chg (Kd.C_below HRR.out.2 HB2.out) (hmet _ (by decide))⟩, (hB.trans (HB2.out.mono (by omega))).setCell (p := ⟨g, k, none⟩) hgl1 _⟩
          case measure => simp [intOf]; omega
        · obtain rfl : k = xb.length := by omega
          obtain ⟨A5, d5, e5, hg5, hd5, hC⟩ := HT.out.read_flat (y := ⟨w.heap.size + 2, 0⟩) (fun h => h) (Nat.le_refl _) (by decide) (Nat.le_refl (w.heap.size + 2))
          injection e5 with e5 e6 e7
          subst e5
          clear e6 e7
          have HC := Lib.hid hC
          have hB8 := hB7.trans (hB.mono (by omega))
          clear HT hC hB hB7
          go_wp2_with fail
          refine bodyPost_ret (v := .agg #[.slice B0 xc.length d0, .bool x1, .int .i64 x2, .slice B1 xb.length d1, .slice B2 xf.length d2]) (by simp [results, Try.results5, go_sem, *]) rfl ⟨[_, _, _, _, _], rfl, ?_, (by repeat (first | with_reducible exact Below.refl _ _ | with_reducible assumption | with_reducible refine Below.drew ?_ | with_reducible refine below_drewN ?_ _ | (with_reducible refine Below.alloc ?_ ?_ _; rotate_left 1; focus (first | (simp; done) | (simp; omega) | omega)) | (with_reducible refine Below.setCell ?_ ?_ _; rotate_left 1; focus (first | (simp; done) | (simp; omega) | omega))))⟩
          have hh : ∀ k, w.heap.size + 2 ≤ k → (((((wr.setCell ⟨w.heap.size + 1, 0, none⟩ (.slice B0 xc.length d0)).setCell ⟨w.heap.size + 1, 1, none⟩ (.bool x1)).setCell ⟨w.heap.size + 1, 2, none⟩ (.int .i64 x2)).setCell ⟨w.heap.size + 1, 3, none⟩ (.slice B1 xb.length d1)).setCell ⟨w.heap.size + 1, 4, none⟩ (.slice B2 xf.length d2)).heap[k]? = wr.heap[k]? := by repeat (first | with_reducible refine hi_set ?_ _ _ (by simp) | with_reducible exact hi_refl _ _)
          exact K_frm.2 ⟨B0, d0, B1, d1, B2, d2, rfl, ⟨hg0, hd0, Kd.C_hi HRR.out.1 hh ⟨by simp [Zn.new], Nat.le_refl _⟩⟩, ‹_›, ⟨hg1, hd1, Kd.C_hi HC.out hh ⟨by simp [Zn.new], Nat.le_refl _⟩⟩, ⟨hg2, hd2, Kd.C_hi HRR.out.2 hh ⟨by simp [Zn.new], Nat.le_refl _⟩⟩⟩
end Go.Proofs.Ytagihamgaidikaa
