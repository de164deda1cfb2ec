/- reedpiperef23.Twin. -/
import Derived.Test.YtagihamgaidikaaRtwin18
set_option linter.unusedVariables false
set_option linter.unusedSimpArgs false
namespace Go.Proofs.Ytagihamgaidikaa
open Go.RowKit
set_option maxHeartbeats 1000000
theorem alloc3_new (w : World) (A B C : Obj) : (((w.alloc A).alloc B).alloc C).heap[w.heap.size + 2]? = some C := by simpa using alloc1_new ((w.alloc A).alloc B) C
set_option maxRecDepth 100000 in
theorem ref23_twin (x : Frm) (cs : List Value) (b : Zn) (w : World) (hx : kFrm.K b w x cs) (hb : b.hi ≤ w.heap.size) (hs : x.Small) :
    Calls Try.prog 8 #[.agg cs.toArray] w fun e w' => ∃ ds, e = .returned (.agg ds.toArray) ∧ kFrm.K (Zn.new w) w' x ds ∧ Below w.heap.size w w' := by
  obtain ⟨A0, c0, A1, c1, A2, c2, rfl, ⟨_, hm0, hC0⟩, r2, ⟨_, hm1, hC1⟩, ⟨_, hm2, hC2⟩⟩ := K_frm.1 hx
  obtain ⟨xc, x1, x2, xb, xf⟩ := x
  obtain ⟨s0, s1, s2, s3, s4⟩ := hs
  have hu := Try.underlying26
  have hu2 := Try.underlying37
  dsimp only at hC0 hC1 hC2 r2 s0 s1 s2 s3 s4
  clear hx
  have HC0 := Lib.hid hC0
  have HC1 := Lib.hid hC1
  have HC2 := Lib.hid hC2
  have HS1 := Lib.hid s1
  have HS3 := Lib.hid s3
  clear hC0 hC1 hC2 s1 s3
  go_enter Try.func8, Try.ntmps8
  go_upto_region 2 with fail
  refine gen (F := fun W => (∀ o, W.frozen? ⟨w.heap.size, o, none⟩ = false) ∧ (∀ o, W.frozen? ⟨w.heap.size + 1, o, none⟩ = false) ∧ (∀ o, W.frozen? ⟨w.heap.size + 2, o, none⟩ = false) ∧ (W.cell? ⟨w.heap.size, 0, none⟩ = some (.slice A0 xc.length c0) ∧ W.cell? ⟨w.heap.size, 1, none⟩ = some (.bool x1) ∧ W.cell? ⟨w.heap.size, 2, none⟩ = some (.int .i64 x2) ∧ W.cell? ⟨w.heap.size, 3, none⟩ = some (.slice A1 xb.length c1) ∧ W.cell? ⟨w.heap.size, 4, none⟩ = some (.slice A2 xf.length c2)) ∧ (W.cell? ⟨w.heap.size + 1, 0, none⟩ = some (.slice none 0 0) ∧ W.cell? ⟨w.heap.size + 1, 1, none⟩ = some (.bool false) ∧ W.cell? ⟨w.heap.size + 1, 2, none⟩ = some (.int .i64 0) ∧ W.cell? ⟨w.heap.size + 1, 3, none⟩ = some (.slice none 0 0) ∧ W.cell? ⟨w.heap.size + 1, 4, none⟩ = some (.slice none 0 0)) ∧ (W.cell? ⟨w.heap.size + 2, 0, none⟩ = some (.slice none 0 0) ∧ W.cell? ⟨w.heap.size + 2, 1, none⟩ = some (.bool x1) ∧ W.cell? ⟨w.heap.size + 2, 2, none⟩ = some (.int .i64 x2) ∧ W.cell? ⟨w.heap.size + 2, 3, none⟩ = some (.slice none 0 0) ∧ W.cell? ⟨w.heap.size + 2, 4, none⟩ = some (.slice none 0 0)) ∧ Hid (W.heap.size = w.heap.size + 3 ∧ (∃ cur, W.heap[w.heap.size + 2]? = some (.cells cur 26 (0, 0)))) ∧ Below w.heap.size w W) ⟨?_, ?_, ?_, ?_, ?_, ?_, ?_, ?_⟩ ?_
  · intro o; simp [go_sem]
  · intro o; simp [go_sem]
  · intro o; simp [go_sem]
  · simp [go_sem]
  · simp [go_sem]
  · simp [go_sem]
  · exact Lib.hid ⟨by simp, by repeat (first | with_reducible exact ⟨_, alloc3_new _ _ _ _⟩ | with_reducible refine typed_set ?_ _ _)⟩
  · exact (by repeat (first | with_reducible exact Below.refl _ _ | with_reducible assumption | with_reducible refine Below.drew ?_ | with_reducible refine below_drewN ?_ _ | (with_reducible refine Below.alloc ?_ ?_ _; rotate_left 1; focus (first | (simp; done) | (simp; omega) | omega)) | (with_reducible refine Below.setCell ?_ ?_ _; rotate_left 1; focus (first | (simp; done) | (simp; omega) | omega))))
  rintro W ⟨hf1, hf2, hf3, ⟨q0, q1, q2, q3, q4⟩, ⟨y0, y1, y2, y3, y4⟩, ⟨t0, t1, t2, t3, t4⟩, HN, hBW⟩
  have hn : w.heap.size < W.heap.size := by have := HN.out.1; omega
  have HP8 : Hid (w.heap.size + 2 < W.heap.size) := Lib.hid (by have := HN.out.1; omega)
  have HTP : Hid (∃ cur, W.heap[w.heap.size + 2]? = some (.cells cur 26 (0, 0))) := Lib.hid HN.out.2
  have hWS := HN.out.1
  clear HN
  have hB8 : Below (w.heap.size + 2) W W := Below.refl _ _
  go_wp2_with fail
  have hmx0 : xc.length ≤ 9223372036854775807 := by omega
  go_loopw [4] (fun i wr => ∃ (k : Nat) (v : Value), k ≤ xc.length ∧ i = .int .i64 k ∧ (wr.cell? ⟨w.heap.size + 2, 0, none⟩ = some (v) ∧ wr.cell? ⟨w.heap.size + 2, 1, none⟩ = some (.bool x1) ∧ wr.cell? ⟨w.heap.size + 2, 2, none⟩ = some (.int .i64 x2) ∧ wr.cell? ⟨w.heap.size + 2, 3, none⟩ = some (.slice none 0 0) ∧ wr.cell? ⟨w.heap.size + 2, 4, none⟩ = some (.slice none 0 0)) ∧ (∀ o, wr.frozen? ⟨w.heap.size + 2, o, none⟩ = false) ∧ Hid ((∃ cur, wr.heap[w.heap.size + 2]? = some (.cells cur 26 (0, 0)))) ∧ Hid (w.heap.size + 2 < wr.heap.size) ∧ Hid (kChn.O 37 ⟨w.heap.size + 2, 0⟩ (w.heap.size + 2) wr v (xc.take k)) ∧ Below (w.heap.size + 2) W wr) (fun i _ => xc.length - (intOf i).toNat)
  case atStart => exact ⟨0, .slice none 0 0, Nat.zero_le _, rfl, ⟨t0, t1, t2, t3, t4⟩, hf3, HTP, HP8, Lib.hid (Kd.O_nil ..), hB8⟩
  case round =>
    clear t0 t1 t2 t3 t4 hf3 HTP HP8 hB8
    obtain ⟨k, v, hk, rfl, ⟨t0, t1, t2, t3, t4⟩, hf3, HR, HP8, HO, hB8⟩ := hrel
    have hcn := (box_keep6 hB8 (show w.heap.size < w.heap.size + 2 by omega)).1
    have z0 := (hcn 0).trans q0
    clear hcn
    by_cases hlt : k < xc.length
    · obtain ⟨g, o, cs, hA, hg, hK, hcs⟩ := Kd.C_at HC0.out default hlt
      subst hA
      have hBx : Below w.heap.size w wr := hBW.trans (hB8.mono (by omega))
      have hxs := hBx.size
      obtain ⟨E0, e0, E1, e1, E2, e2, E3, e3, E4, e4, rfl, _⟩ := K_chn.1 hK
      have hi := fun j u hu => ((box_keep hBx hg).1 (o + (k * kChn.sz + j))).trans (hcs j u hu)
      simp only [show kChn.sz = 9 from rfl, ← Nat.add_assoc] at hi
      have f0 := hi 0 _ rfl
      rw [Nat.add_zero] at f0
      have f1 := hi 1 _ rfl
      have f2 := hi 2 _ rfl
      have f3 := hi 3 _ rfl
      have f4 := hi 4 _ rfl
      have f5 := hi 5 _ rfl
      have f6 := hi 6 _ rfl
      have f7 := hi 7 _ rfl
      have f8 := hi 8 _ rfl
      have key := ref18_twin (xc.getD k default) _ b wr.drew (Kd.K_below hK hBx.drew) (by show b.hi ≤ wr.heap.size; omega) (HS1.out k hlt)
      have KY := Lib.hid key
      have HG := Lib.hid (upto_take1 (d := (default : Chn)) hlt)
      clear key hK hcs hi
      generalize xc.getD k default = X at *
      obtain ⟨X0, ⟨X1, X2, X3, X4⟩, X5, X6, X7, X8⟩ := X
      dsimp only at f0 f1 f2 f3 f4 f5 f6 f7 f8 KY
      go_wp2_with fail
      have hk0 : (0 : Int) ≤ (k : Int) := by omega
      have hk1 : (k : Int) < (xc.length : Int) := by omega
      refine wp_region_late (S := fun w' => w'.cell? ⟨w.heap.size + 2, 0, none⟩ = some v ∧ w'.cell? ⟨w.heap.size, 0, none⟩ = some (.slice (some ⟨g, o, none⟩) xc.length c0) ∧ w'.cell? ⟨g, o + k * 9, none⟩ = some (.int .i64 X0) ∧ w'.cell? ⟨g, o + k * 9 + 1, none⟩ = some (.int .u8 X1) ∧ w'.cell? ⟨g, o + k * 9 + 2, none⟩ = some (.int .u8 X2) ∧ w'.cell? ⟨g, o + k * 9 + 3, none⟩ = some (.int .i64 X3) ∧ w'.cell? ⟨g, o + k * 9 + 4, none⟩ = some (.slice E0 X4.length e0) ∧ w'.cell? ⟨g, o + k * 9 + 5, none⟩ = some (.slice E1 X5.length e1) ∧ w'.cell? ⟨g, o + k * 9 + 6, none⟩ = some (.slice E2 X6.length e2) ∧ w'.cell? ⟨g, o + k * 9 + 7, none⟩ = some (.slice E3 X7.length e3) ∧ w'.cell? ⟨g, o + k * 9 + 8, none⟩ = some (.slice E4 X8.length e4)) (D := [0, 1, 2, 3, 4, 5, 6]) (by kernel_rfl) rfl (by simp [*]) (fun hHeld => ?_)
      (refine late_take (i := 0) (v := ?_) rfl (by kernel_rfl) (by kernel_rfl) (by kernel_rfl) (by kernel_rfl) (fun _ _ _ h => h) (Or.inl ⟨by rfl, ?_⟩) (by assumption) ?_; rotate_left 1; focus (intro w hSw; (try dsimp only at hSw); go_simp; try (with_reducible rfl)); (try simp only [List.getElem_toArray, List.getElem_cons_succ, List.getElem_cons_zero]); (try simp only [Act.put, List.setIfInBounds_toArray, List.set_cons_zero, List.set_cons_succ]))
      (refine late_take (i := 1) (v := ?_) rfl (by kernel_rfl) (by kernel_rfl) (by kernel_rfl) (by kernel_rfl) (fun _ _ _ h => h) (Or.inl ⟨by rfl, ?_⟩) (by assumption) ?_; rotate_left 1; focus (intro w hSw; (try dsimp only at hSw); go_simp; try (with_reducible rfl)); (try simp only [List.getElem_toArray, List.getElem_cons_succ, List.getElem_cons_zero]); (try simp only [Act.put, List.setIfInBounds_toArray, List.set_cons_zero, List.set_cons_succ]))
      (refine late_take (i := 2) (v := ?_) rfl (by kernel_rfl) (by kernel_rfl) (by kernel_rfl) (by kernel_rfl) (fun _ _ _ h => h) (Or.inl ⟨by rfl, ?_⟩) (by assumption) ?_; rotate_left 1; focus (intro w hSw; (try dsimp only at hSw); go_simp; try (with_reducible rfl)); (try simp only [List.getElem_toArray, List.getElem_cons_succ, List.getElem_cons_zero]); (try simp only [Act.put, List.setIfInBounds_toArray, List.set_cons_zero, List.set_cons_succ]))
      (refine late_take (i := 3) (v := ?_) rfl (by kernel_rfl) (by kernel_rfl) (by kernel_rfl) (by kernel_rfl) (fun _ _ _ h => h) (Or.inl ⟨by rfl, ?_⟩) (by assumption) ?_; rotate_left 1; focus (intro w hSw; (try dsimp only at hSw); go_simp; try (with_reducible rfl)); (try simp only [List.getElem_toArray, List.getElem_cons_succ, List.getElem_cons_zero]); (try simp only [Act.put, List.setIfInBounds_toArray, List.set_cons_zero, List.set_cons_succ]))
      (refine late_take (i := 4) (v := ?_) rfl (by kernel_rfl) (by kernel_rfl) (by kernel_rfl) (by kernel_rfl) (fun _ _ _ h => h) (Or.inl ⟨by rfl, ?_⟩) (by assumption) ?_; rotate_left 1; focus (intro w hSw; (try dsimp only at hSw); go_simp; try (with_reducible rfl)); (try simp only [List.getElem_toArray, List.getElem_cons_succ, List.getElem_cons_zero]); (try simp only [Act.put, List.setIfInBounds_toArray, List.set_cons_zero, List.set_cons_succ]))
      (refine late_take (i := 5) (v := ?_) rfl (by kernel_rfl) (by kernel_rfl) (by kernel_rfl) (by kernel_rfl) (fun _ _ _ h => h) (Or.inl ⟨by rfl, ?_⟩) (by assumption) ?_; rotate_left 1; focus (intro w hSw; (try dsimp only at hSw); go_simp; try (with_reducible rfl)); (try simp only [List.getElem_toArray, List.getElem_cons_succ, List.getElem_cons_zero]); (try simp only [Act.put, List.setIfInBounds_toArray, List.set_cons_zero, List.set_cons_succ]))
      (refine late_take (i := 6) (v := ?_) rfl (by kernel_rfl) (by kernel_rfl) (by kernel_rfl) (by kernel_rfl) (fun _ _ _ h => h) (Or.inl ⟨by rfl, ?_⟩) (by assumption) ?_; rotate_left 1; focus (intro w hSw; (try dsimp only at hSw); go_simp; try (with_reducible rfl)); (try simp only [List.getElem_toArray, List.getElem_cons_succ, List.getElem_cons_zero]); (try simp only [Act.put, List.setIfInBounds_toArray, List.set_cons_zero, List.set_cons_succ]))
      have hpr := HP8.out
      have hnr : w.heap.size < wr.heap.size := by omega
      have hgr' : g < wr.heap.size := Nat.lt_of_lt_of_le hg hBx.size
      have hbw : b.hi ≤ wr.heap.size := by omega
      (refine late_only (i := 7) (by kernel_rfl) rfl (by rfl) (fun K hK => ?_); go_simp)
      refine KY.out.mono ?_
      rintro e w1 ⟨ds, rfl, hN, hB1⟩
      obtain ⟨G0, m0, G1, m1, G2, m2, G3, m3, G4, m4, rfl, _⟩ := K_chn.1 hN
      dsimp only
      have hB1 := below_of_drew hB1
      have hs1 := hB1.size
      (refine hK.out _ _ ?_ (fun hHeld => ?_); rotate_left 1; (try clear hK); (try clear K); (try simp only [List.getElem_toArray, List.getElem_cons_succ, List.getElem_cons_zero]); (try simp only [Act.put, List.setIfInBounds_toArray, List.set_cons_zero, List.set_cons_succ]); rotate_left 1; focus ((simp only [(box_keep hB1 hpr).1, (box_keep hB1 hnr).1, (box_keep hB1 hgr').1]; exact hHeld)))
      have HKN := Lib.hid (kChn.mono (show (Zn.new wr.drew).le ⟨w.heap.size + 2, 0⟩ from ⟨by show w.heap.size + 2 ≤ wr.heap.size; omega, Nat.le_refl _⟩) hN)
      have HB1 := Lib.hid hB1
      have HO1 := Lib.hid (Kd.O_below HO.out hB1)
      have HA := Lib.hid fun (ob : Obj) => ((Below.refl w1.heap.size w1).alloc (Nat.le_refl _) ob)
      clear hN hB1
      (refine late_only (i := 8) (by kernel_rfl) rfl (by rfl) (fun K hK => ?_); go_simp)
      (refine hK.out _ _ ?_ (fun hHeld => ?_); rotate_left 1; (try clear hK); (try clear K); (try simp only [List.getElem_toArray, List.getElem_cons_succ, List.getElem_cons_zero]); (try simp only [Act.put, List.setIfInBounds_toArray, List.set_cons_zero, List.set_cons_succ]); rotate_left 1; focus ((simp only [(box_keep (HA.out _) (Nat.lt_of_lt_of_le hpr hs1)).1, (box_keep (HA.out _) (Nat.lt_of_lt_of_le hnr hs1)).1, (box_keep (HA.out _) (Nat.lt_of_lt_of_le hgr' hs1)).1]; exact hHeld)))
      (refine late_list (i := 9) (by kernel_rfl) rfl (by rfl) (fun K hK => ?_); (try simp only [List.getElem_toArray, List.getElem_cons_succ, List.getElem_cons_zero]))
      refine append_one kChn (W := w1) 37 ⟨w.heap.size + 2, 0⟩ (w.heap.size + 2) rfl (.tmp 19) (.tmp 26) 22 (.agg #[.int .i64 0, .int .u8 0, .int .u8 0, .int .i64 0, .slice none 0 0, .slice none 0 0, .slice none 0 0, .slice none 0 0, .slice none 0 0]) 9 144 rfl Try.underlying22 (by kernel_rfl) rfl rfl (by decide) (by decide) (by decide) (Nat.zero_le _) v (xc.take k) ⟨X0, ⟨X1, X2, X3, X4⟩, X5, X6, X7, X8⟩ [.int .i64 X0, .int .u8 X1, .int .u8 X2, .int .i64 X3, .slice G0 X4.length m0, .slice G1 X5.length m1, .slice G2 X6.length m2, .slice G3 X7.length m3, .slice G4 X8.length m4] ?_ ?_ HO1.out HKN.out (by omega) (by simp only [List.length_take]; omega) ?_
      · kernel_rfl
      · kernel_rfl
      intro v2 w2 h3 h4 _
      change K _ _
      rw [HG.out] at h3
      have htp : (∃ cur, w1.heap[w.heap.size + 2]? = some (.cells cur 26 (0, 0))) := by
        obtain ⟨cur, hc⟩ := HR.out
        exact ⟨cur, (HB1.out.block _ hpr).trans hc⟩
      have kp := same_cell (grown_cell h4 HO1.out (Nat.lt_of_lt_of_le hpr hs1) (.inr ⟨26, by decide, htp⟩))
      have kn := same_cell (grown_cell h4 HO1.out (Nat.lt_of_lt_of_le hnr hs1) (.inl (by omega)))
      have kg := same_cell (grown_cell h4 HO1.out (Nat.lt_of_lt_of_le hgr' hs1) (.inl (by omega)))
      (refine hK.out _ _ ?_ (fun hHeld => ?_); rotate_left 1; (try clear hK); (try clear K); (try simp only [List.getElem_toArray, List.getElem_cons_succ, List.getElem_cons_zero]); (try simp only [Act.put, List.setIfInBounds_toArray, List.set_cons_zero, List.set_cons_succ]); rotate_left 1; focus ((simp only [kp.1, kn.1, kg.1]; simpa only [(box_keep (HA.out _) (Nat.lt_of_lt_of_le hpr hs1)).1, (box_keep (HA.out _) (Nat.lt_of_lt_of_le hnr hs1)).1, (box_keep (HA.out _) (Nat.lt_of_lt_of_le hgr' hs1)).1] using hHeld)))
      have kb := box_keep HB1.out hpr
      simp only [← kb.1] at t0 t1 t2 t3 t4
      simp only [← kp.1] at t0 t1 t2 t3 t4
      simp only [← kb.2] at hf3
      simp only [← kp.2] at hf3
      have H3 := Lib.hid h3
      have hty2 : (∃ cur, w2.heap[w.heap.size + 2]? = some (.cells cur 26 (0, 0))) := by
        obtain ⟨cur, hc⟩ := htp
        exact ⟨cur, (grown_cell h4 HO1.out (Nat.lt_of_lt_of_le hpr hs1) (.inr ⟨26, by decide, cur, hc⟩)).trans hc⟩
      have hsz2 : w1.heap.size ≤ w2.heap.size := h4.size
      have hm4 : ∀ E, 37 ∉ E → ∀ k', (⟨w.heap.size + 2, 0⟩ : Zn).met E w1 k' → w2.heap[k']? = w1.heap[k']? := by
        obtain ⟨cs, ho, _⟩ := HO1.out
        exact fun E hE => Kd.met_own ho hE (Nat.zero_le _) h4
      have HM := Lib.hid hm4
      have HY := Lib.hid hty2
      have hB9 := below_O (hB8.trans (HB1.out.mono (by omega))) h4 (by omega) HO1.out (by omega)
      clear h3 h4 kb kp kn kg htp hm4 hty2
      obtain ⟨v2a, l2, v2c, rfl⟩ : ∃ a l c, v2 = .slice a l c := by
        obtain ⟨a, c, h, _⟩ := Kd.O_slice H3.out
        exact ⟨a, _, c, h⟩
      (refine late_last (i := 10) (by kernel_rfl) rfl (by rfl) (by kernel_rfl) (fun K hK => ?_); go_simp)
      (refine hK.out _ _ ?_; clear hK; clear K; (try simp only [List.getElem_toArray, List.getElem_cons_succ, List.getElem_cons_zero]); (try simp only [Act.put, List.setIfInBounds_toArray, List.set_cons_zero, List.set_cons_succ]))
      (refine late_last (i := 11) (by kernel_rfl) rfl (by rfl) (by kernel_rfl) (fun K hK => ?_); go_simp)
      (refine hK.out _ _ ?_; clear hK; clear K; (try simp only [List.getElem_toArray, List.getElem_cons_succ, List.getElem_cons_zero]); (try simp only [Act.put, List.setIfInBounds_toArray, List.set_cons_zero, List.set_cons_succ]))
      refine late_done (by kernel_rfl) ?_
      go_wp2_with fail
      go_roundw
      case rel =>
        refine ⟨k + 1, .slice v2a l2 v2c, by omega, by go_num, ⟨by simp [go_sem, t0, t1, t2, t3, t4], by simp [go_sem, t0, t1, t2, t3, t4], by simp [go_sem, t0, t1, t2, t3, t4], by simp [go_sem, t0, t1, t2, t3, t4], by simp [go_sem, t0, t1, t2, t3, t4]⟩, by intro o; simp [go_sem, hf3], Lib.hid (typed_set HY.out _ _), Lib.hid (by simp; omega), Lib.hid (Kd.O_met H3.out (by simp) (fun E hE y hy => met_box (t := 26) (fun h => absurd (hE h) (by decide)) (by omega) HY.out (grown_set (grown_refl _ _) _ _)) (Nat.zero_le _)), hB9.setCell (p := ⟨w.heap.size + 2, 0, none⟩) (by dsimp only; omega) _⟩
      case measure => simp [intOf]; omega
    · obtain rfl : k = xc.length := by omega
      go_wp2_with fail
      rw [List.take_length] at HO
      obtain ⟨B0, d0, rfl, hg0, hd0, hCn⟩ := Kd.O_C (b := ⟨w.heap.size + 2, 0⟩) (y := ⟨w.heap.size + 2, 0⟩) HO.out (by decide) ⟨Nat.le_refl _, Nat.le_refl _⟩ (Nat.le_refl (w.heap.size + 2))
      have HRn := Lib.hid (show ((∃ cur, wr.heap[w.heap.size + 2]? = some (.cells cur 26 (0, 0))) ∧ kChn.C 37 ⟨w.heap.size + 2, 0⟩ wr B0 xc) from ⟨HR.out, hCn⟩)
      clear HR HO hCn z0
      have HR := HRn
      clear HRn
      have hmx1 : xb.length ≤ 9223372036854775807 := by omega
      go_loopw [5] (fun i wr => ∃ (k : Nat) (v : Value), k ≤ xb.length ∧ i = .int .i64 k ∧ (wr.cell? ⟨w.heap.size + 2, 0, none⟩ = some (.slice B0 xc.length d0) ∧ wr.cell? ⟨w.heap.size + 2, 1, none⟩ = some (.bool x1) ∧ wr.cell? ⟨w.heap.size + 2, 2, none⟩ = some (.int .i64 x2) ∧ wr.cell? ⟨w.heap.size + 2, 3, none⟩ = some (v) ∧ wr.cell? ⟨w.heap.size + 2, 4, none⟩ = some (.slice none 0 0)) ∧ (∀ o, wr.frozen? ⟨w.heap.size + 2, o, none⟩ = false) ∧ Hid ((∃ cur, wr.heap[w.heap.size + 2]? = some (.cells cur 26 (0, 0))) ∧ kChn.C 37 ⟨w.heap.size + 2, 0⟩ wr B0 xc) ∧ Hid (w.heap.size + 2 < wr.heap.size) ∧ Hid ((Kd.sl 4 Kd.bool).O 38 ⟨w.heap.size + 2, 0⟩ (w.heap.size + 2) wr v (xb.take k)) ∧ Below (w.heap.size + 2) W wr) (fun i _ => xb.length - (intOf i).toNat)
      case atStart => exact ⟨0, .slice none 0 0, Nat.zero_le _, rfl, ⟨t0, t1, t2, t3, t4⟩, hf3, HR, HP8, Lib.hid (Kd.O_nil ..), hB8⟩
      case round =>
        clear t0 t1 t2 t3 t4 hf3 HR HP8 hB8
        obtain ⟨k, v, hk, rfl, ⟨t0, t1, t2, t3, t4⟩, hf3, HR, HP8, HO, hB8⟩ := hrel
        have hcn := (box_keep6 hB8 (show w.heap.size < w.heap.size + 2 by omega)).1
        have z3 := (hcn 3).trans q3
        clear hcn
        by_cases hlt : k < xb.length
        · obtain ⟨g, o, A', c', hA, hg, hc, hcl, hc2, hC⟩ := C_sl HC1.out hlt
          subst hA
          have hBx : Below w.heap.size w wr := hBW.trans (hB8.mono (by omega))
          have hxs := hBx.size
          have hce := ((box_keep hBx hg).1 (o + k)).trans hc
          have HX := Lib.hid (Kd.C_below hC hBx)
          have hS := HS3.out k
          have HG := Lib.hid (upto_take (d := ([] : List Bool)) hlt)
          clear hc hC
          generalize xb.getD k [] = X at *
          skip
          go_wp2_with fail
          have hk0 : (0 : Int) ≤ (k : Int) := by omega
          have hk1 : (k : Int) < (xb.length : Int) := by omega
          refine wp_region_late (S := fun w' => w'.cell? ⟨w.heap.size + 2, 3, none⟩ = some v ∧ w'.cell? ⟨w.heap.size, 3, none⟩ = some (.slice (some ⟨g, o, none⟩) xb.length c1) ∧ w'.cell? ⟨g, o + k, none⟩ = some (.slice A' X.length c')) (D := [0, 1, 2, 3, 4, 5, 6]) (by kernel_rfl) rfl (by simp [*]) (fun hHeld => ?_)
          (refine late_take (i := 0) (v := ?_) rfl (by kernel_rfl) (by kernel_rfl) (by kernel_rfl) (by kernel_rfl) (fun _ _ _ h => h) (Or.inl ⟨by rfl, ?_⟩) (by assumption) ?_; rotate_left 1; focus (intro w hSw; (try dsimp only at hSw); go_simp; try (with_reducible rfl)); (try simp only [List.getElem_toArray, List.getElem_cons_succ, List.getElem_cons_zero]); (try simp only [Act.put, List.setIfInBounds_toArray, List.set_cons_zero, List.set_cons_succ]))
          (refine late_take (i := 1) (v := ?_) rfl (by kernel_rfl) (by kernel_rfl) (by kernel_rfl) (by kernel_rfl) (fun _ _ _ h => h) (Or.inl ⟨by rfl, ?_⟩) (by assumption) ?_; rotate_left 1; focus (intro w hSw; (try dsimp only at hSw); go_simp; try (with_reducible rfl)); (try simp only [List.getElem_toArray, List.getElem_cons_succ, List.getElem_cons_zero]); (try simp only [Act.put, List.setIfInBounds_toArray, List.set_cons_zero, List.set_cons_succ]))
          (refine late_take (i := 2) (v := ?_) rfl (by kernel_rfl) (by kernel_rfl) (by kernel_rfl) (by kernel_rfl) (fun _ _ _ h => h) (Or.inl ⟨by rfl, ?_⟩) (by assumption) ?_; rotate_left 1; focus (intro w hSw; (try dsimp only at hSw); go_simp; try (with_reducible rfl)); (try simp only [List.getElem_toArray, List.getElem_cons_succ, List.getElem_cons_zero]); (try simp only [Act.put, List.setIfInBounds_toArray, List.set_cons_zero, List.set_cons_succ]))
          (refine late_take (i := 3) (v := ?_) rfl (by kernel_rfl) (by kernel_rfl) (by kernel_rfl) (by kernel_rfl) (fun _ _ _ h => h) (Or.inl ⟨by rfl, ?_⟩) (by assumption) ?_; rotate_left 1; focus (intro w hSw; (try dsimp only at hSw); go_simp; try (with_reducible rfl)); (try simp only [List.getElem_toArray, List.getElem_cons_succ, List.getElem_cons_zero]); (try simp only [Act.put, List.setIfInBounds_toArray, List.set_cons_zero, List.set_cons_succ]))
          (refine late_take (i := 4) (v := ?_) rfl (by kernel_rfl) (by kernel_rfl) (by kernel_rfl) (by kernel_rfl) (fun _ _ _ h => h) (Or.inl ⟨by rfl, ?_⟩) (by assumption) ?_; rotate_left 1; focus (intro w hSw; (try dsimp only at hSw); go_simp; try (with_reducible rfl)); (try simp only [List.getElem_toArray, List.getElem_cons_succ, List.getElem_cons_zero]); (try simp only [Act.put, List.setIfInBounds_toArray, List.set_cons_zero, List.set_cons_succ]))
          (refine late_take (i := 5) (v := ?_) rfl (by kernel_rfl) (by kernel_rfl) (by kernel_rfl) (by kernel_rfl) (fun _ _ _ h => h) (Or.inl ⟨by rfl, ?_⟩) (by assumption) ?_; rotate_left 1; focus (intro w hSw; (try dsimp only at hSw); go_simp; try (with_reducible rfl)); (try simp only [List.getElem_toArray, List.getElem_cons_succ, List.getElem_cons_zero]); (try simp only [Act.put, List.setIfInBounds_toArray, List.set_cons_zero, List.set_cons_succ]))
          (refine late_take (i := 6) (v := ?_) rfl (by kernel_rfl) (by kernel_rfl) (by kernel_rfl) (by kernel_rfl) (fun _ _ _ h => h) (Or.inl ⟨by rfl, ?_⟩) (by assumption) ?_; rotate_left 1; focus (intro w hSw; (try dsimp only at hSw); go_simp; try (with_reducible rfl)); (try simp only [List.getElem_toArray, List.getElem_cons_succ, List.getElem_cons_zero]); (try simp only [Act.put, List.setIfInBounds_toArray, List.set_cons_zero, List.set_cons_succ]))
          have hpr := HP8.out
          have hnr : w.heap.size < wr.heap.size := by omega
          have hgr' : g < wr.heap.size := Nat.lt_of_lt_of_le hg hBx.size
          have hbw : b.hi ≤ wr.heap.size := by omega
          (refine late_list (i := 7) (by kernel_rfl) rfl (by rfl) (fun K hK => ?_); (try simp only [List.getElem_toArray, List.getElem_cons_succ, List.getElem_cons_zero]))
          have hcC : Kd.bool.C 4 b wr.drew A' X := Kd.C_below HX.out (Below.refl _ _).drew
          have hbb : b.hi ≤ wr.drew.heap.size := hbw
          refine append_row Kd.bool 4 b wr.drew.heap.size rfl (.const (.slice none 0 0)) (.tmp 42) 38 (.bool false) 1 1 rfl Try.underlying38 (by kernel_rfl) rfl rfl (by decide) (by decide) (by decide) hbb (.slice none 0 0) [] X A' c' ?_ ?_ (Kd.O_nil ..) hcC (Nat.le_refl _) (by simp; omega) ?_
          · rfl
          · kernel_rfl
          clear hcC hbb
          intro v1 w1 h1 h2 _
          change K _ _
          rw [List.nil_append] at h1
          obtain ⟨Au, cu, rfl, hu1, hu2, hu3⟩ := Kd.O_C (b := ⟨w.heap.size + 2, 0⟩) (y := ⟨w.heap.size + 2, 0⟩) (show Kd.bool.O 4 ⟨w.heap.size + 2, 0⟩ wr.drew.heap.size w1 v1 X from h1) (by decide) ⟨Nat.le_refl _, Nat.le_refl _⟩ (by show w.heap.size + 2 ≤ wr.heap.size; omega)
          have hB1 := below_of_drew (below_none h2)
          have hs1 := hB1.size
          (refine hK.out _ _ ?_ (fun hHeld => ?_); rotate_left 1; (try clear hK); (try clear K); (try simp only [List.getElem_toArray, List.getElem_cons_succ, List.getElem_cons_zero]); (try simp only [Act.put, List.setIfInBounds_toArray, List.set_cons_zero, List.set_cons_succ]); rotate_left 1; focus ((simp only [(box_keep hB1 hpr).1, (box_keep hB1 hnr).1, (box_keep hB1 hgr').1]; exact hHeld)))
          have HU := Lib.hid (And.intro hu1 (And.intro hu2 hu3))
          have HB1 := Lib.hid hB1
          have HO1 := Lib.hid (Kd.O_below HO.out hB1)
          have HA := Lib.hid fun (ob : Obj) => ((Below.refl w1.heap.size w1).alloc (Nat.le_refl _) ob)
          clear h1 h2 hu1 hu2 hu3 hB1
          (refine late_only (i := 8) (by kernel_rfl) rfl (by rfl) (fun K hK => ?_); go_simp)
          (refine hK.out _ _ ?_ (fun hHeld => ?_); rotate_left 1; (try clear hK); (try clear K); (try simp only [List.getElem_toArray, List.getElem_cons_succ, List.getElem_cons_zero]); (try simp only [Act.put, List.setIfInBounds_toArray, List.set_cons_zero, List.set_cons_succ]); rotate_left 1; focus ((simp only [(box_keep (HA.out _) (Nat.lt_of_lt_of_le hpr hs1)).1, (box_keep (HA.out _) (Nat.lt_of_lt_of_le hnr hs1)).1, (box_keep (HA.out _) (Nat.lt_of_lt_of_le hgr' hs1)).1]; exact hHeld)))
          (refine late_list (i := 9) (by kernel_rfl) rfl (by rfl) (fun K hK => ?_); (try simp only [List.getElem_toArray, List.getElem_cons_succ, List.getElem_cons_zero]))
          refine append_one (Kd.sl 4 Kd.bool) (W := w1) 38 ⟨w.heap.size + 2, 0⟩ (w.heap.size + 2) rfl (.tmp 37) (.tmp 44) 23 (.slice none 0 0) 1 24 rfl Try.underlying23 (by kernel_rfl) rfl rfl (by decide) (by decide) (by decide) (Nat.zero_le _) v (xb.take k) X [.slice Au X.length cu] ?_ ?_ HO1.out ⟨Au, cu, rfl, HU.out⟩ (by omega) (by simp only [List.length_take]; omega) ?_
          · kernel_rfl
          · kernel_rfl
          intro v2 w2 h3 h4 _
          change K _ _
          rw [HG.out] at h3
          have htp : (∃ cur, w1.heap[w.heap.size + 2]? = some (.cells cur 26 (0, 0))) := by
            obtain ⟨cur, hc⟩ := HR.out.1
            exact ⟨cur, (HB1.out.block _ hpr).trans hc⟩
          have kp := same_cell (grown_cell h4 HO1.out (Nat.lt_of_lt_of_le hpr hs1) (.inr ⟨26, by decide, htp⟩))
          have kn := same_cell (grown_cell h4 HO1.out (Nat.lt_of_lt_of_le hnr hs1) (.inl (by omega)))
          have kg := same_cell (grown_cell h4 HO1.out (Nat.lt_of_lt_of_le hgr' hs1) (.inl (by omega)))
          (refine hK.out _ _ ?_ (fun hHeld => ?_); rotate_left 1; (try clear hK); (try clear K); (try simp only [List.getElem_toArray, List.getElem_cons_succ, List.getElem_cons_zero]); (try simp only [Act.put, List.setIfInBounds_toArray, List.set_cons_zero, List.set_cons_succ]); rotate_left 1; focus ((simp only [kp.1, kn.1, kg.1]; simpa only [(box_keep (HA.out _) (Nat.lt_of_lt_of_le hpr hs1)).1, (box_keep (HA.out _) (Nat.lt_of_lt_of_le hnr hs1)).1, (box_keep (HA.out _) (Nat.lt_of_lt_of_le hgr' hs1)).1] using hHeld)))
          have kb := box_keep HB1.out hpr
          simp only [← kb.1] at t0 t1 t2 t3 t4
          simp only [← kp.1] at t0 t1 t2 t3 t4
          simp only [← kb.2] at hf3
          simp only [← kp.2] at hf3
          have H3 := Lib.hid h3
          have hty2 : (∃ cur, w2.heap[w.heap.size + 2]? = some (.cells cur 26 (0, 0))) := by
            obtain ⟨cur, hc⟩ := htp
            exact ⟨cur, (grown_cell h4 HO1.out (Nat.lt_of_lt_of_le hpr hs1) (.inr ⟨26, by decide, cur, hc⟩)).trans hc⟩
          have hsz2 : w1.heap.size ≤ w2.heap.size := h4.size
          have hm4 : ∀ E, 38 ∉ E → ∀ k', (⟨w.heap.size + 2, 0⟩ : Zn).met E w1 k' → w2.heap[k']? = w1.heap[k']? := by
            obtain ⟨cs, ho, _⟩ := HO1.out
            exact fun E hE => Kd.met_own ho hE (Nat.zero_le _) h4
          have HM := Lib.hid hm4
          have HY := Lib.hid hty2
          have hB9 := below_O (hB8.trans (HB1.out.mono (by omega))) h4 (by omega) HO1.out (by omega)
          clear h3 h4 kb kp kn kg htp hm4 hty2
          obtain ⟨v2a, l2, v2c, rfl⟩ : ∃ a l c, v2 = .slice a l c := by
            obtain ⟨a, c, h, _⟩ := Kd.O_slice H3.out
            exact ⟨a, _, c, h⟩
          (refine late_last (i := 10) (by kernel_rfl) rfl (by rfl) (by kernel_rfl) (fun K hK => ?_); go_simp)
          (refine hK.out _ _ ?_; clear hK; clear K; (try simp only [List.getElem_toArray, List.getElem_cons_succ, List.getElem_cons_zero]); (try simp only [Act.put, List.setIfInBounds_toArray, List.set_cons_zero, List.set_cons_succ]))
          (refine late_last (i := 11) (by kernel_rfl) rfl (by rfl) (by kernel_rfl) (fun K hK => ?_); go_simp)
          (refine hK.out _ _ ?_; clear hK; clear K; (try simp only [List.getElem_toArray, List.getElem_cons_succ, List.getElem_cons_zero]); (try simp only [Act.put, List.setIfInBounds_toArray, List.set_cons_zero, List.set_cons_succ]))
          refine late_done (by kernel_rfl) ?_
          go_wp2_with fail
          go_roundw
          case rel =>
            refine ⟨k + 1, .slice v2a l2 v2c, by omega, by go_num, ⟨by simp [go_sem, t0, t1, t2, t3, t4], by simp [go_sem, t0, t1, t2, t3, t4], by simp [go_sem, t0, t1, t2, t3, t4], by simp [go_sem, t0, t1, t2, t3, t4], by simp [go_sem, t0, t1, t2, t3, t4]⟩, by intro o; simp [go_sem, hf3], Lib.hid ⟨typed_set HY.out _ _, Kd.C_box (Kd.C_chg (Kd.C_below HR.out.2 HB1.out) (HM.out _ (by decide))) (by decide) (Nat.zero_le _) HY.out (grown_set (grown_refl _ _) _ _)⟩, Lib.hid (by simp; omega), Lib.hid (Kd.O_met H3.out (by simp) (fun E hE y hy => met_box (t := 26) (fun h => absurd (hE h) (by decide)) (by omega) HY.out (grown_set (grown_refl _ _) _ _)) (Nat.zero_le _)), hB9.setCell (p := ⟨w.heap.size + 2, 3, none⟩) (by dsimp only; omega) _⟩
          case measure => simp [intOf]; omega
        · obtain rfl : k = xb.length := by omega
          go_upto_region 10 with fail
          rw [List.take_length] at HO
          obtain ⟨B3, d3, rfl, hg3, hd3, hCn⟩ := Kd.O_C (b := ⟨w.heap.size + 2, 0⟩) (y := ⟨w.heap.size + 2, 0⟩) HO.out (by decide) ⟨Nat.le_refl _, Nat.le_refl _⟩ (Nat.le_refl (w.heap.size + 2))
          have HRn := Lib.hid (show ((∃ cur, wr.heap[w.heap.size + 2]? = some (.cells cur 26 (0, 0))) ∧ kChn.C 37 ⟨w.heap.size + 2, 0⟩ wr B0 xc ∧ (Kd.sl 4 Kd.bool).C 38 ⟨w.heap.size + 2, 0⟩ wr B3 xb) from ⟨HR.out.1, HR.out.2, hCn⟩)
          clear HR HO hCn z3
          have HR := HRn
          clear HRn
          have hcv := box_keep6 hB8 (show w.heap.size + 1 < w.heap.size + 2 by omega)
          simp only [← hcv.1] at y0 y1 y2 y3 y4
          simp only [← hcv.2] at hf2
          have hcn := box_keep6 hB8 (show w.heap.size < w.heap.size + 2 by omega)
          have z4 := (hcn.1 4).trans q4
          have hB0 : Below w.heap.size w wr := hBW.trans (hB8.mono (by omega))
          have hpr := HP8.out
          have HC2' := Lib.hid (Kd.C_below HC2.out hB0)
          have hbw : b.hi ≤ wr.heap.size := by omega
          clear hcv hcn hB8 HC2
          go_wp2_with (at_builtin; go_must (
            refine append_row U8 5 b wr.heap.size rfl (.tmp 48) (.tmp 50) 24 (.int .u8 0) 1 1 rfl Try.underlying24 (by kernel_rfl) rfl rfl (by decide) (by decide) (by decide) hbw (.slice none 0 0) [] xf A2 c2 (by kernel_rfl) (by kernel_rfl) (Kd.O_nil ..) HC2'.out (Nat.le_refl _) (by simp; omega) ?_
            intro v1 w1 h1 h2 h3
            clear h3
            have hB1 := below_none h2
            obtain ⟨B4, d4, rfl, hv1, hv2, hv3⟩ := O_u8 h1 ⟨w.heap.size + 2, 0⟩ (by dsimp only; omega)
            simp only [List.nil_append] at hv1 hv3
            have HO := Lib.hid hv3
            have HB1 := Lib.hid hB1
            have hcp := box_keep hB1 hpr
            have hcy := box_keep hB1 (show w.heap.size + 1 < wr.heap.size by omega)
            simp only [← hcp.1] at t0 t1 t2 t3 t4
            simp only [← hcp.2] at hf3
            simp only [← hcy.1] at y0 y1 y2 y3 y4
            simp only [← hcy.2] at hf2
            have hB0 := below_then hB0 hB1
            clear h1 h2 hv3 hB1 hcp hcy
            simp only [List.nil_append]))
          have hty : (∃ cur, w1.heap[w.heap.size + 2]? = some (.cells cur 26 (0, 0))) := by
            obtain ⟨cur, hc⟩ := HR.out.1
            exact ⟨cur, (HB1.out.block _ hpr).trans hc⟩
          refine bodyPost_ret (v := .agg #[.slice B0 xc.length d0, .bool x1, .int .i64 x2, .slice B3 xb.length d3, .slice B4 xf.length d4]) (by simp [results, Try.results8, go_sem, *]) rfl ⟨[_, _, _, _, _], rfl, ?_, (by repeat (first | with_reducible exact Below.refl _ _ | with_reducible assumption | with_reducible refine Below.drew ?_ | with_reducible refine below_drewN ?_ _ | (with_reducible refine Below.alloc ?_ ?_ _; rotate_left 1; focus (first | (simp; done) | (simp; omega) | omega)) | (with_reducible refine Below.setCell ?_ ?_ _; rotate_left 1; focus (first | (simp; done) | (simp; omega) | omega))))⟩
          have hh : ∀ k, w.heap.size + 2 ≤ k → ((((((w1.setCell ⟨w.heap.size + 2, 4, none⟩ (.slice B4 xf.length d4)).setCell ⟨w.heap.size + 1, 0, none⟩ (.slice B0 xc.length d0)).setCell ⟨w.heap.size + 1, 1, none⟩ (.bool x1)).setCell ⟨w.heap.size + 1, 2, none⟩ (.int .i64 x2)).setCell ⟨w.heap.size + 1, 3, none⟩ (.slice B3 xb.length d3)).setCell ⟨w.heap.size + 1, 4, none⟩ (.slice B4 xf.length d4)).heap[k]? = (w1.setCell ⟨w.heap.size + 2, 4, none⟩ (.slice B4 xf.length d4)).heap[k]? := by repeat (first | with_reducible exact hi_refl _ _ | with_reducible refine hi_set ?_ _ _ (by simp))
          have lz : Zn.le ⟨w.heap.size + 2, 0⟩ (Zn.new w) := ⟨by simp [Zn.new], Nat.le_refl _⟩
          have hg := grown_set (grown_refl w1 (some (w.heap.size + 2))) 4 (.slice B4 xf.length d4)
          exact K_frm.2 ⟨B0, d0, B3, d3, B4, d4, rfl, ⟨hg0, hd0, Kd.C_hi (Kd.C_box (Kd.C_below HR.out.2.1 HB1.out) (by decide) (Nat.zero_le _) hty hg) hh lz⟩, r2, ⟨hg3, hd3, Kd.C_hi (Kd.C_box (Kd.C_below HR.out.2.2 HB1.out) (by decide) (Nat.zero_le _) hty hg) hh lz⟩, ⟨hv1, hv2, Kd.C_hi (Kd.C_box HO.out (by decide) (Nat.zero_le _) hty hg) hh lz⟩⟩
end Go.Proofs.Ytagihamgaidikaa
