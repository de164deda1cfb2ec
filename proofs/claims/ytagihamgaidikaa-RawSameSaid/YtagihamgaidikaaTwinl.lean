/- lane.Twin: a channel in new memory. -/
import Derived.Test.YtagihamgaidikaaTwin
import Derived.Test.YtagihamgaidikaaLate
set_option linter.unusedVariables false
set_option linter.unusedSimpArgs false
namespace Go.Proofs.Ytagihamgaidikaa
open Go.RowKit
theorem box_keep {n : Nat} {W w1 : World} (hB : Below W.heap.size W w1) (hn : n < W.heap.size) : (∀ o, w1.cell? ⟨n, o, none⟩ = W.cell? ⟨n, o, none⟩) ∧ (∀ o, w1.frozen? ⟨n, o, none⟩ = W.frozen? ⟨n, o, none⟩) :=
  ⟨fun o => hB.cell (p := ⟨n, o, none⟩) hn, fun o => hB.frozen (p := ⟨n, o, none⟩) hn⟩
theorem box_keep6 {n m : Nat} {W w1 : World} (hB : Below m W w1) (hn : n < m) : (∀ o, w1.cell? ⟨n, o, none⟩ = W.cell? ⟨n, o, none⟩) ∧ (∀ o, w1.frozen? ⟨n, o, none⟩ = W.frozen? ⟨n, o, none⟩) :=
  ⟨fun o => hB.cell (p := ⟨n, o, none⟩) hn, fun o => hB.frozen (p := ⟨n, o, none⟩) hn⟩
theorem below_of_drew {w w1 : World} (h : Below w.drew.heap.size w.drew w1) : Below w.heap.size w w1 := ⟨h.os, h.tape, h.output, h.size, h.block⟩
theorem alloc2_old (w : World) (A B : Obj) : ((w.alloc A).alloc B).heap[w.heap.size]? = some A :=
  (Below.heap_alloc (w.alloc A) B _ (by simp)).trans (by show (w.heap.push A)[w.heap.size]? = _; simp)
theorem grown_refl (w : World) (row : Option Nat) : w.grownBy w row := ⟨rfl, rfl, rfl, Nat.le_refl _, fun _ _ _ => rfl⟩
theorem grown_set {w w1 : World} {g : Nat} (h : w.grownBy w1 (some g)) (o : Nat) (u : Value) : w.grownBy (w1.setCell ⟨g, o, none⟩ u) (some g) :=
  ⟨h.os, h.tape, h.output, by simpa [World.setCell] using h.size, fun k hk hne => (Below.heap_setCell w1 ⟨g, o, none⟩ u k (fun e => hne (by simpa using e))).trans (h.block k hk hne)⟩
theorem grown_below {w w1 : World} {g B : Nat} (h : w.grownBy w1 (some g)) (hB : B ≤ g) (hs : B ≤ w.heap.size) : Below B w w1 :=
  ⟨h.os, h.tape, h.output, h.size, fun k hk => h.block k (by omega) (fun e => by injection e; omega)⟩
theorem grown_hi {w w1 : World} {g n : Nat} (h : w.grownBy w1 (some g)) (hn : g < n) (hw : ∀ k, w.heap.size ≤ k → w1.heap[k]? = w.heap[k]?) : ∀ k, n ≤ k → w1.heap[k]? = w.heap[k]? := fun k hk => by
  rcases Nat.lt_or_ge k w.heap.size with hlt | hge
  · exact h.block k hlt (fun e => by injection e; omega)
  · exact hw k hge
theorem met_box {E : List Nat} {b : Zn} {w w1 : World} {n t : Nat} (hE : t ∉ E) (hb : b.hi ≤ n) (hn : ∃ cur, w.heap[n]? = some (.cells cur t (0, 0))) (hg : w.grownBy w1 (some n)) : ∀ k, b.met E w k → w1.heap[k]? = w.heap[k]? := by
  rintro k ⟨t', ht, _, hk, hz⟩
  refine hg.block k hk (fun e => ?_)
  injection e with e
  subst e
  obtain ⟨cur, hc⟩ := hn
  rcases hz with hz | ⟨cells, hz⟩
  · omega
  · rw [hc] at hz
    simp only [Option.some.injEq, Obj.cells.injEq] at hz
    exact hE (hz.2.1 ▸ ht)
namespace Kd
theorem C_box {α : Type} {d : Kd α} {e n t : Nat} {b : Zn} {w w1 : World} {A : Option Addr} {xs : List α} (h : d.C e b w A xs) (hE : t ∉ e :: d.E) (hb : b.hi ≤ n) (hn : ∃ cur, w.heap[n]? = some (.cells cur t (0, 0))) (hg : w.grownBy w1 (some n)) : d.C e b w1 A xs :=
  C_chg h (met_box hE hb hn hg)
theorem OO.box {α : Type} {d : Kd α} {e1 e2 n t : Nat} {b : Zn} {z : Nat → Nat → Zn} {base k : Nat} {w w1 : World} {v : Value} {xss : List (List α)} {vs : List Value} (h : d.OO e1 e2 b z base k w v xss vs) (hE : t ∉ e1 :: d.E) (hb : b.hi ≤ n) (hz : ∀ i j, (z i j).hi ≤ n) (hbase : n < base)
    (hn : ∃ cur, w.heap[n]? = some (.cells cur t (0, 0))) (hg : w.grownBy w1 (some n)) : d.OO e1 e2 b z base k w1 v xss vs where
  own := h.own.kept hg (by
    rcases h.own.2 with ⟨rfl, _⟩ | ⟨g, cap, cur, rfl, hbg, _⟩
    · exact .inl rfl
    · exact .inr (by simp only [Value.ownBlock, ne_eq, Option.some.injEq]; omega))
  row i xs hi hx := by
    obtain ⟨u, hu, cs, ho, hr⟩ := h.row i xs hi hx
    refine ⟨u, hu, cs, ho.kept hg ?_, fun j x hx => d.chg (met_box (fun h => hE (List.mem_cons_of_mem _ h)) (hz i j) hn hg) (hr j x hx)⟩
    rcases ho.2 with ⟨rfl, _⟩ | ⟨g, cap, cur, rfl, hbg, _⟩
    · exact .inl rfl
    · exact .inr (by simp only [Value.ownBlock, ne_eq, Option.some.injEq]; omega)
  old i xs hi hx := by
    obtain ⟨u, hu, hk⟩ := h.old i xs hi hx
    exact ⟨u, hu, (Kd.sl e1 d).chg (met_box hE hb hn hg) hk⟩
  apart := h.apart
theorem OO.rezone {α : Type} {d : Kd α} {e1 e2 : Nat} {b : Zn} {z z' : Nat → Nat → Zn} {base k : Nat} {w : World} {v : Value} {xss : List (List α)} {vs : List Value} (h : d.OO e1 e2 b z base k w v xss vs) (hz : ∀ i xs j, xss[i]? = some xs → j < xs.length → z i j = z' i j) : d.OO e1 e2 b z' base k w v xss vs :=
  ⟨h.own, fun i xs hi hx => by
    obtain ⟨u, hu, cs, ho, hr⟩ := h.row i xs hi hx
    exact ⟨u, hu, cs, ho, fun j x hj => hz i xs j hx (List.getElem?_eq_some_iff.1 hj).1 ▸ hr j x hj⟩, h.old, h.apart⟩
theorem OO.read_flat {α : Type} {d : Kd α} {e1 e2 : Nat} {b y : Zn} {z : Nat → Nat → Zn} {base k : Nat} {w : World} {v : Value} {xss : List (List α)} {vs : List Value} (hf : ∀ {b b' : Zn} {x cs}, d.K b w x cs → d.K b' w x cs) (h : d.OO e1 e2 b z base k w v xss vs) (hk : xss.length ≤ k) (hs : 0 < d.sz) (hy : y.lo ≤ base) :
    ∃ A c, v = .slice A xss.length c ∧ xss.length ≤ c ∧ c ≤ maxLen ∧ (Kd.sl e1 d).C e2 y w A xss := by
  have h2 : d.OO e1 e2 b (fun _ _ => y) base k w v xss vs := ⟨h.own, fun i xs hi hx => by
    obtain ⟨u, hu, cs, ho, hr⟩ := h.row i xs hi hx
    exact ⟨u, hu, cs, ho, fun j x hx => hf (hr j x hx)⟩, h.old, h.apart⟩
  exact O_C (h2.read hk hs (fun _ _ => ⟨Nat.le_refl _, Nat.le_refl _⟩) hy) Nat.zero_lt_one ⟨Nat.le_refl _, Nat.le_refl _⟩ hy
theorem zone_row {β : Type} {Y b : Zn} {xn : List (List β)} {k i j : Nat} {X xs : List β} (hX : xn[k]? = some X) (hx : xn[i]? = some xs) (hj : j < xs.length) : (if i < k ∨ (i = k ∧ j < X.length) then Y else b) = (if i < k + 1 then Y else b) := by
  by_cases h1 : i = k
  · subst h1
    rw [hX] at hx
    injection hx with hx
    subst hx
    simp [hj]
  · have h2 : i < k ↔ i < k + 1 := by omega
    simp [h1, h2]
theorem zone_next {Y b : Zn} {k q : Nat} : (fun i j => if i = k ∧ j = q then Y else if i < k ∨ (i = k ∧ j < q) then Y else b) = (fun i j => if i < k ∨ (i = k ∧ j < q + 1) then Y else b) := by
  funext i j
  by_cases h1 : i < k
  · simp [h1]
  · by_cases h2 : i = k
    · by_cases h3 : j = q
      · simp [h2, h3]
      · have h4 : j < q ↔ j < q + 1 := by omega
        simp [h2, h3, h4]
    · simp [h1, h2]
/-- A store of a filter's new coefficients. -/
theorem inner_coefs {b Y : Zn} {z : Nat → Nat → Zn} {base : Nat} {w : World} {v : Value} {xn : List (List Filt)} {vs : List Value} (h : kFilt.OO 53 51 b z base xn.length w v xn vs)
    (hz : ∀ i j, (z i j).hi ≤ base) (hY : Y.hi ≤ base) {k q : Nat} {X : List Filt} (hk : xn[k]? = some X) {g n' c' : Nat} (hu : vs[k]? = some (.slice (some ⟨g, 0, none⟩) n' c')) {x : Filt} (hq : X[q]? = some x) {A : Option Addr} {c : Nat} (h1 : x.coefs.length ≤ c) (h2 : c ≤ maxLen) (hC : I64.C 3 Y w A x.coefs) :
    kFilt.OO 53 51 b (fun i j => if i = k ∧ j = q then Y else z i j) base xn.length (w.setCell ⟨g, q * 5 + 4, none⟩ (.slice A x.coefs.length c)) v xn vs ∧
    ∀ E, 53 ∉ E → ∀ (y : Zn), y.hi ≤ base → ∀ k, y.met E w k → (w.setCell ⟨g, q * 5 + 4, none⟩ (.slice A x.coefs.length c)).heap[k]? = w.heap[k]? := by
  have hkl := (List.getElem?_eq_some_iff.1 hk).1
  have hql := (List.getElem?_eq_some_iff.1 hq).1
  have hqe := (List.getElem?_eq_some_iff.1 hq).2
  obtain ⟨u, hu', hrow⟩ := h.row k X hkl hk
  rw [hu] at hu'
  injection hu' with hu'
  subst hu'
  have hg : w.grownBy (w.setCell ⟨g, q * 5 + 4, none⟩ (.slice A x.coefs.length c)) (some g) := grown_set (grown_refl _ _) _ _
  have hset := Kd.OZ_set (y := Y) (x := X[q]) (f := 4) (u := .slice A x.coefs.length c) hrow (by decide) (fun j _ => hz k j) hY hql (by decide) (fun cs hK => by
    rw [hqe] at hK ⊢
    obtain ⟨A0, c0, rfl, e0, e1, _, _, _⟩ := K_filt.1 hK
    exact K_filt.2 ⟨A, c, rfl, e0, e1, h1, h2, hC⟩)
  rw [set_getD hql] at hset
  have hin := h.inner (Nat.le_refl _) (by decide) (by decide) hz hu hg hset
  have hx : xn.set k X = xn := by
    rw [← (List.getElem?_eq_some_iff.1 hk).2]
    exact set_getD hkl
  rw [hx] at hin
  refine ⟨hin.rezone (fun i xs j _ _ => ?_), fun E hE y hy => ?_⟩
  · by_cases hik : i = k
    · by_cases hjq : j = q
      · rw [if_pos hik, if_pos hjq, if_pos ⟨hik, hjq⟩]
      · rw [if_pos hik, if_neg hjq, if_neg (fun e => hjq e.2), hik]
    · rw [if_neg hik, if_neg (fun e => hik e.1)]
  · obtain ⟨cs, ho, _⟩ := hrow
    exact met_own ho hE hy (by simpa [Value.ownBlock] using hg)
end Kd
theorem gen {p : World → Prop} {F : World → Prop} {W : World} (hF : F W) (h : ∀ W1, F W1 → p W1) : p W := h W hF
/-- No list of a channel is beyond what append can hold. -/
structure Chn.Small (x : Chn) : Prop where
  g : x.info.groups.length ≤ 1000000000000
  s : x.sections.length ≤ 1000000000000
  ss : ∀ i, (x.sections.getD i []).length ≤ 1000000000000
  t : x.steps.length ≤ 1000000000000
  tt : ∀ i, (x.steps.getD i []).length ≤ 1000000000000
  n : x.tns.length ≤ 1000000000000
  nn : ∀ i, (x.tns.getD i []).length ≤ 1000000000000
  nc : ∀ i j, ((x.tns.getD i []).getD j default).coefs.length ≤ 1000000000000
  l : x.lines.length ≤ 1000000000000
set_option maxHeartbeats 4000000
theorem lane_twin (x : Chn) (cs : List Value) (b : Zn) (w : World) (hx : kChn.K b w x cs) (hb : b.hi ≤ w.heap.size) (hs : x.Small) :
    Calls Try.prog 13 #[.agg cs.toArray] w fun e w' => ∃ ds, e = .returned (.agg ds.toArray) ∧ kChn.K (Zn.new w) w' x ds ∧ Below w.heap.size w w' := by
  obtain ⟨A0, c0, A1, c1, A2, c2, A3, c3, A4, c4, rfl, r0, ⟨ri0, ri1, ri2, _, hm0, hC0⟩, ⟨_, hm1, hC1⟩, ⟨_, hm2, hC2⟩, ⟨_, hm3, hC3⟩, ⟨_, hm4, hC4⟩⟩ := K_chn.1 hx
  obtain ⟨x0, ⟨i0, i1, i2, xg⟩, xs, xt, xn, xl⟩ := x
  obtain ⟨s0, s1, s2, s3, s4, s5, s6, s7, s8⟩ := hs
  have hu := Try.underlying37
  have hu2 := Try.underlying32
  dsimp only at hC0 hC1 hC2 hC3 hC4 r0 ri0 ri1 ri2 s0 s1 s2 s3 s4 s5 s6 s7 s8
  clear hx
  have KEY0 := Lib.hid fun W' (hW' : Below w.heap.size w W') => info_twin ⟨i0, i1, i2, xg⟩ _ b W' (Kd.K_below (K_inf.2 ⟨A0, c0, rfl, ri0, ri1, ri2, ‹_›, hm0, hC0⟩) hW') (Nat.le_trans hb hW'.size) (by dsimp only; omega)
  have KEY1 := Lib.hid fun W' (hW' : Below w.heap.size w W') => twins_secs A1 c1 b xs W' (Kd.C_below hC1 hW') (Nat.le_trans hb hW'.size) (by omega) (fun i => by have := s2 i; omega)
  have KEY2 := Lib.hid fun W' (hW' : Below w.heap.size w W') => twins_steps A2 c2 b xt W' (Kd.C_below hC2 hW') (Nat.le_trans hb hW'.size) (by omega) (fun i => by have := s4 i; omega)
  have KEY3 := Lib.hid fun W' (hW' : Below w.heap.size w W') => twins_tns A3 c3 b xn W' (Kd.C_below hC3 hW') (Nat.le_trans hb hW'.size) (by omega) (fun i => by have := s6 i; omega)
  have KEY4 := Lib.hid fun W' (hW' : Below w.heap.size w W') => clone_int A4 c4 b xl W' (Kd.C_below hC4 hW') (Nat.le_trans hb hW'.size) (by omega)
  have HS := Lib.hid s7
  clear hC0 hC1 hC2 hC3 hC4 s2 s4 s6 s7
  go_enter Try.func13, Try.ntmps13
  go_wp2_with fail
  refine gen (F := fun W => (∀ o, W.frozen? ⟨w.heap.size, o, none⟩ = false) ∧ (∀ o, W.frozen? ⟨w.heap.size + 1, o, none⟩ = false) ∧ (W.cell? ⟨w.heap.size, 0, none⟩ = some (.int .i64 x0) ∧ W.cell? ⟨w.heap.size, 1, none⟩ = some (.int .u8 i0) ∧ W.cell? ⟨w.heap.size, 2, none⟩ = some (.int .u8 i1) ∧ W.cell? ⟨w.heap.size, 3, none⟩ = some (.int .i64 i2) ∧ W.cell? ⟨w.heap.size, 4, none⟩ = some (.slice A0 xg.length c0) ∧ W.cell? ⟨w.heap.size, 5, none⟩ = some (.slice A1 xs.length c1) ∧ W.cell? ⟨w.heap.size, 6, none⟩ = some (.slice A2 xt.length c2) ∧ W.cell? ⟨w.heap.size, 7, none⟩ = some (.slice A3 xn.length c3) ∧ W.cell? ⟨w.heap.size, 8, none⟩ = some (.slice A4 xl.length c4)) ∧ (W.cell? ⟨w.heap.size + 1, 0, none⟩ = some (.int .i64 0) ∧ W.cell? ⟨w.heap.size + 1, 1, none⟩ = some (.int .u8 0) ∧ W.cell? ⟨w.heap.size + 1, 2, none⟩ = some (.int .u8 0) ∧ W.cell? ⟨w.heap.size + 1, 3, none⟩ = some (.int .i64 0) ∧ W.cell? ⟨w.heap.size + 1, 4, none⟩ = some (.slice none 0 0) ∧ W.cell? ⟨w.heap.size + 1, 5, none⟩ = some (.slice none 0 0) ∧ W.cell? ⟨w.heap.size + 1, 6, none⟩ = some (.slice none 0 0) ∧ W.cell? ⟨w.heap.size + 1, 7, none⟩ = some (.slice none 0 0) ∧ W.cell? ⟨w.heap.size + 1, 8, none⟩ = some (.slice none 0 0)) ∧ Hid (W.heap.size = w.heap.size + 2 ∧ ∃ cur, W.heap[w.heap.size]? = some (.cells cur 37 (0, 0))) ∧ Below w.heap.size w W) ⟨?_, ?_, ?_, ?_, ?_, ?_⟩ ?_
  · intro o; simp [go_sem]
  · intro o; simp [go_sem]
  · simp [go_sem]
  · simp [go_sem]
  · exact Lib.hid ⟨by simp, _, alloc2_old _ _ _⟩
  · exact (by repeat (first | with_reducible exact Below.refl _ _ | with_reducible assumption | with_reducible refine Below.drew ?_ | with_reducible refine below_drewN ?_ _ | (with_reducible refine Below.alloc ?_ ?_ _; rotate_left 1; focus (first | (simp; done) | (simp; omega) | omega)) | (with_reducible refine Below.setCell ?_ ?_ _; rotate_left 1; focus (first | (simp; done) | (simp; omega) | omega))))
  rintro W ⟨hf1, hf2, ⟨q0, q1, q2, q3, q4, q5, q6, q7, q8⟩, ⟨r0, r1, r2, r3, r4, r5, r6, r7, r8⟩, HN, hBW⟩
  refine wp_region_late (S := fun w' => w'.cell? ⟨w.heap.size, 0, none⟩ = some (.int .i64 x0) ∧ w'.cell? ⟨w.heap.size, 1, none⟩ = some (.int .u8 i0) ∧ w'.cell? ⟨w.heap.size, 2, none⟩ = some (.int .u8 i1) ∧ w'.cell? ⟨w.heap.size, 3, none⟩ = some (.int .i64 i2) ∧ w'.cell? ⟨w.heap.size, 4, none⟩ = some (.slice A0 xg.length c0) ∧ w'.cell? ⟨w.heap.size, 5, none⟩ = some (.slice A1 xs.length c1) ∧ w'.cell? ⟨w.heap.size, 6, none⟩ = some (.slice A2 xt.length c2) ∧ w'.cell? ⟨w.heap.size, 7, none⟩ = some (.slice A3 xn.length c3) ∧ w'.cell? ⟨w.heap.size, 8, none⟩ = some (.slice A4 xl.length c4)) (D := [0, 1, 3, 4, 6, 7, 9, 10, 12, 13, 15]) (by kernel_rfl) rfl (by simp [go_sem, *]) (fun hHeld => ?_)
  (refine late_take (i := 0) (v := ?_) rfl (by kernel_rfl) (by kernel_rfl) (by kernel_rfl) (by kernel_rfl) (fun _ _ _ h => h) (Or.inl ⟨by rfl, ?_⟩) (by assumption) ?_; rotate_left 1; focus (intro w hSw; (try dsimp only at hSw); go_simp; try (with_reducible rfl)); (try simp only [List.getElem_toArray, List.getElem_cons_succ, List.getElem_cons_zero]); (try simp only [Act.put, List.setIfInBounds_toArray, List.set_cons_zero, List.set_cons_succ]))
  (refine late_take (i := 1) (v := ?_) rfl (by kernel_rfl) (by kernel_rfl) (by kernel_rfl) (by kernel_rfl) (fun _ _ _ h => h) (Or.inl ⟨by rfl, ?_⟩) (by assumption) ?_; rotate_left 1; focus (intro w hSw; (try dsimp only at hSw); go_simp; try (with_reducible rfl)); (try simp only [List.getElem_toArray, List.getElem_cons_succ, List.getElem_cons_zero]); (try simp only [Act.put, List.setIfInBounds_toArray, List.set_cons_zero, List.set_cons_succ]))
  (refine late_take (i := 3) (v := ?_) rfl (by kernel_rfl) (by kernel_rfl) (by kernel_rfl) (by kernel_rfl) (fun _ _ _ h => h) (Or.inl ⟨by rfl, ?_⟩) (by assumption) ?_; rotate_left 1; focus (intro w hSw; (try dsimp only at hSw); go_simp; try (with_reducible rfl)); (try simp only [List.getElem_toArray, List.getElem_cons_succ, List.getElem_cons_zero]); (try simp only [Act.put, List.setIfInBounds_toArray, List.set_cons_zero, List.set_cons_succ]))
  (refine late_take (i := 4) (v := ?_) rfl (by kernel_rfl) (by kernel_rfl) (by kernel_rfl) (by kernel_rfl) (fun _ _ _ h => h) (Or.inl ⟨by rfl, ?_⟩) (by assumption) ?_; rotate_left 1; focus (intro w hSw; (try dsimp only at hSw); go_simp; try (with_reducible rfl)); (try simp only [List.getElem_toArray, List.getElem_cons_succ, List.getElem_cons_zero]); (try simp only [Act.put, List.setIfInBounds_toArray, List.set_cons_zero, List.set_cons_succ]))
  (refine late_take (i := 6) (v := ?_) rfl (by kernel_rfl) (by kernel_rfl) (by kernel_rfl) (by kernel_rfl) (fun _ _ _ h => h) (Or.inl ⟨by rfl, ?_⟩) (by assumption) ?_; rotate_left 1; focus (intro w hSw; (try dsimp only at hSw); go_simp; try (with_reducible rfl)); (try simp only [List.getElem_toArray, List.getElem_cons_succ, List.getElem_cons_zero]); (try simp only [Act.put, List.setIfInBounds_toArray, List.set_cons_zero, List.set_cons_succ]))
  (refine late_take (i := 7) (v := ?_) rfl (by kernel_rfl) (by kernel_rfl) (by kernel_rfl) (by kernel_rfl) (fun _ _ _ h => h) (Or.inl ⟨by rfl, ?_⟩) (by assumption) ?_; rotate_left 1; focus (intro w hSw; (try dsimp only at hSw); go_simp; try (with_reducible rfl)); (try simp only [List.getElem_toArray, List.getElem_cons_succ, List.getElem_cons_zero]); (try simp only [Act.put, List.setIfInBounds_toArray, List.set_cons_zero, List.set_cons_succ]))
  (refine late_take (i := 9) (v := ?_) rfl (by kernel_rfl) (by kernel_rfl) (by kernel_rfl) (by kernel_rfl) (fun _ _ _ h => h) (Or.inl ⟨by rfl, ?_⟩) (by assumption) ?_; rotate_left 1; focus (intro w hSw; (try dsimp only at hSw); go_simp; try (with_reducible rfl)); (try simp only [List.getElem_toArray, List.getElem_cons_succ, List.getElem_cons_zero]); (try simp only [Act.put, List.setIfInBounds_toArray, List.set_cons_zero, List.set_cons_succ]))
  (refine late_take (i := 10) (v := ?_) rfl (by kernel_rfl) (by kernel_rfl) (by kernel_rfl) (by kernel_rfl) (fun _ _ _ h => h) (Or.inl ⟨by rfl, ?_⟩) (by assumption) ?_; rotate_left 1; focus (intro w hSw; (try dsimp only at hSw); go_simp; try (with_reducible rfl)); (try simp only [List.getElem_toArray, List.getElem_cons_succ, List.getElem_cons_zero]); (try simp only [Act.put, List.setIfInBounds_toArray, List.set_cons_zero, List.set_cons_succ]))
  (refine late_take (i := 12) (v := ?_) rfl (by kernel_rfl) (by kernel_rfl) (by kernel_rfl) (by kernel_rfl) (fun _ _ _ h => h) (Or.inl ⟨by rfl, ?_⟩) (by assumption) ?_; rotate_left 1; focus (intro w hSw; (try dsimp only at hSw); go_simp; try (with_reducible rfl)); (try simp only [List.getElem_toArray, List.getElem_cons_succ, List.getElem_cons_zero]); (try simp only [Act.put, List.setIfInBounds_toArray, List.set_cons_zero, List.set_cons_succ]))
  (refine late_take (i := 13) (v := ?_) rfl (by kernel_rfl) (by kernel_rfl) (by kernel_rfl) (by kernel_rfl) (fun _ _ _ h => h) (Or.inl ⟨by rfl, ?_⟩) (by assumption) ?_; rotate_left 1; focus (intro w hSw; (try dsimp only at hSw); go_simp; try (with_reducible rfl)); (try simp only [List.getElem_toArray, List.getElem_cons_succ, List.getElem_cons_zero]); (try simp only [Act.put, List.setIfInBounds_toArray, List.set_cons_zero, List.set_cons_succ]))
  have hn : w.heap.size < W.heap.size := by have := HN.out.1; omega
  have hn1 : w.heap.size + 1 < W.heap.size := by have := HN.out.1; omega
  (refine late_only (i := 2) (by kernel_rfl) rfl (by rfl) (fun K hK => ?_); go_simp)
  refine (KEY0.out _ hBW.drew).mono ?_
  rintro e w1 ⟨ds, rfl, hI, hB⟩
  obtain ⟨B0, d0, rfl, _, _, _, hg0, hd0, hI⟩ := K_inf.1 hI
  dsimp only at hg0 hI
  have HI := Lib.hid (Kd.C_mono (b' := ⟨w.heap.size + 2, 0⟩) hI ⟨Nat.le_of_eq HN.out.1.symm, Nat.le_refl _⟩)
  have hBT := below_of_drew hB
  clear hI hB
  (refine hK.out _ _ ?_ (fun hHeld => ?_); rotate_left 1; (try clear hK); (try clear K); (try simp only [List.getElem_toArray, List.getElem_cons_succ, List.getElem_cons_zero]); (try simp only [Act.put, List.setIfInBounds_toArray, List.set_cons_zero, List.set_cons_succ]); rotate_left 1; focus ((simp only [(box_keep hBT hn).1]; exact hHeld)))
  (refine late_take (i := 15) (v := ?_) rfl (by kernel_rfl) (by kernel_rfl) (by kernel_rfl) (by kernel_rfl) (fun _ _ _ h => h) (Or.inl ⟨by rfl, ?_⟩) (by assumption) ?_; rotate_left 1; focus (intro w hSw; (try dsimp only at hSw); go_simp; try (with_reducible rfl)); (try simp only [List.getElem_toArray, List.getElem_cons_succ, List.getElem_cons_zero]); (try simp only [Act.put, List.setIfInBounds_toArray, List.set_cons_zero, List.set_cons_succ]))
  (refine late_only (i := 5) (by kernel_rfl) rfl (by rfl) (fun K hK => ?_); go_simp)
  refine (KEY1.out _ (below_then hBW hBT)).mono ?_
  rintro e w2 ⟨v, vs, rfl, hO, hB⟩
  obtain ⟨B1, d1, rfl, hg1, hd1, hO⟩ := hO.read_flat (y := ⟨w.heap.size + 2, 0⟩) (fun h => h) (Nat.le_refl _) (by decide) (by have := HN.out.1; have := hBT.size; dsimp only; omega)
  have HI2 := Lib.hid (Kd.C_below HI.out hB)
  have HO1 := Lib.hid hO
  have hBT2 := below_then hBT hB
  (refine hK.out _ _ ?_ (fun hHeld => ?_); rotate_left 1; (try clear hK); (try clear K); (try simp only [List.getElem_toArray, List.getElem_cons_succ, List.getElem_cons_zero]); (try simp only [Act.put, List.setIfInBounds_toArray, List.set_cons_zero, List.set_cons_succ]); rotate_left 1; focus ((simp only [(box_keep hB (Nat.lt_of_lt_of_le hn hBT.size)).1]; exact hHeld)))
  clear HI hO hBT hB
  (refine late_only (i := 8) (by kernel_rfl) rfl (by rfl) (fun K hK => ?_); go_simp)
  refine (KEY2.out _ (below_then hBW hBT2)).mono ?_
  rintro e w3 ⟨v, vs2, rfl, hO, hB⟩
  obtain ⟨B2, d2, rfl, hg2, hd2, hO⟩ := hO.read_flat (y := ⟨w.heap.size + 2, 0⟩) (fun h => h) (Nat.le_refl _) (by decide) (by have := HN.out.1; have := hBT2.size; dsimp only; omega)
  have HI3 := Lib.hid (Kd.C_below HI2.out hB)
  have HO13 := Lib.hid (Kd.C_below HO1.out hB)
  have HO2 := Lib.hid hO
  have hBT3 := below_then hBT2 hB
  (refine hK.out _ _ ?_ (fun hHeld => ?_); rotate_left 1; (try clear hK); (try clear K); (try simp only [List.getElem_toArray, List.getElem_cons_succ, List.getElem_cons_zero]); (try simp only [Act.put, List.setIfInBounds_toArray, List.set_cons_zero, List.set_cons_succ]); rotate_left 1; focus ((simp only [(box_keep hB (Nat.lt_of_lt_of_le hn hBT2.size)).1]; exact hHeld)))
  clear HI2 HO1 hO hBT2 hB
  (refine late_only (i := 11) (by kernel_rfl) rfl (by rfl) (fun K hK => ?_); go_simp)
  refine (KEY3.out _ (below_then hBW hBT3)).mono ?_
  rintro e w4 ⟨v, vs3, rfl, hO, hB⟩
  have HI4 := Lib.hid (Kd.C_below HI3.out hB)
  have HO14 := Lib.hid (Kd.C_below HO13.out hB)
  have HO24 := Lib.hid (Kd.C_below HO2.out hB)
  have HO3 := Lib.hid hO
  have hBT4 := below_then hBT3 hB
  (refine hK.out _ _ ?_ (fun hHeld => ?_); rotate_left 1; (try clear hK); (try clear K); (try simp only [List.getElem_toArray, List.getElem_cons_succ, List.getElem_cons_zero]); (try simp only [Act.put, List.setIfInBounds_toArray, List.set_cons_zero, List.set_cons_succ]); rotate_left 1; focus ((simp only [(box_keep hB (Nat.lt_of_lt_of_le hn hBT3.size)).1]; exact hHeld)))
  clear HI3 HO13 HO2 hO hB
  (refine late_only (i := 14) (by kernel_rfl) rfl (by rfl) (fun K hK => ?_); go_simp)
  refine (KEY4.out _ (below_then hBW hBT4)).mono ?_
  rintro e w5 ⟨v, rfl, hO, hB⟩
  obtain ⟨B4, d4, rfl, hg4, hd4, hO⟩ := O_i64 hO ⟨w.heap.size + 2, 0⟩ (by have := HN.out.1; have := hBT4.size; dsimp only; omega)
  have HI5 := Lib.hid (Kd.C_below HI4.out hB)
  have HO15 := Lib.hid (Kd.C_below HO14.out hB)
  have HO25 := Lib.hid (Kd.C_below HO24.out hB)
  have HO35 := Lib.hid (HO3.out.below hB)
  have HO45 := Lib.hid hO
  have hBT5 := below_then hBT4 hB
  (refine hK.out _ _ ?_ (fun hHeld => ?_); rotate_left 1; (try clear hK); (try clear K); (try simp only [List.getElem_toArray, List.getElem_cons_succ, List.getElem_cons_zero]); (try simp only [Act.put, List.setIfInBounds_toArray, List.set_cons_zero, List.set_cons_succ]); rotate_left 1; focus ((simp only [(box_keep hB (Nat.lt_of_lt_of_le hn hBT4.size)).1]; exact hHeld)))
  have hsz : w.heap.size + 2 ≤ w3.heap.size := by have := HN.out.1; have := hBT3.size; omega
  clear HI4 HO14 HO24 HO3 hO hB hBT4 hBT3
  have hbk : ∀ o, w5.cell? ⟨w.heap.size + 1, o, none⟩ = W.cell? ⟨w.heap.size + 1, o, none⟩ := (box_keep hBT5 hn1).1
  have hfk1 : ∀ o, w5.frozen? ⟨w.heap.size, o, none⟩ = false := fun o => ((box_keep hBT5 hn).2 o).trans (hf1 o)
  have hfk2 : ∀ o, w5.frozen? ⟨w.heap.size + 1, o, none⟩ = false := fun o => ((box_keep hBT5 hn1).2 o).trans (hf2 o)
  simp only [← hbk] at r0 r1 r2 r3 r4 r5 r6 r7 r8
  obtain ⟨p0, p1, p2, p3, p4, p5, p6, p7, p8⟩ := hHeld
  clear hbk
  obtain ⟨A3', d3, rfl, hg3, hd3⟩ : ∃ A3' d3, v = .slice A3' xn.length d3 ∧ xn.length ≤ d3 ∧ d3 ≤ maxLen := by
    rcases HO35.out.form with ⟨h1, h2⟩ | ⟨g, cap, h1, _, _, h2, h3, _⟩
    · exact ⟨none, 0, by rw [h1, h2]; rfl, by rw [h2]; exact Nat.le_refl _, by simp [maxLen]⟩
    · exact ⟨_, _, h1, h2, h3⟩
  (refine late_last (i := 16) (by kernel_rfl) rfl (by rfl) (by kernel_rfl) (fun K hK => ?_); go_simp)
  (refine hK.out _ _ ?_; clear hK; clear K; (try simp only [List.getElem_toArray, List.getElem_cons_succ, List.getElem_cons_zero]); (try simp only [Act.put, List.setIfInBounds_toArray, List.set_cons_zero, List.set_cons_succ]))
  (refine late_last (i := 17) (by kernel_rfl) rfl (by rfl) (by kernel_rfl) (fun K hK => ?_); go_simp)
  (refine hK.out _ _ ?_; clear hK; clear K; (try simp only [List.getElem_toArray, List.getElem_cons_succ, List.getElem_cons_zero]); (try simp only [Act.put, List.setIfInBounds_toArray, List.set_cons_zero, List.set_cons_succ]))
  (refine late_last (i := 18) (by kernel_rfl) rfl (by rfl) (by kernel_rfl) (fun K hK => ?_); go_simp)
  (refine hK.out _ _ ?_; clear hK; clear K; (try simp only [List.getElem_toArray, List.getElem_cons_succ, List.getElem_cons_zero]); (try simp only [Act.put, List.setIfInBounds_toArray, List.set_cons_zero, List.set_cons_succ]))
  (refine late_last (i := 19) (by kernel_rfl) rfl (by rfl) (by kernel_rfl) (fun K hK => ?_); go_simp)
  (refine hK.out _ _ ?_; clear hK; clear K; (try simp only [List.getElem_toArray, List.getElem_cons_succ, List.getElem_cons_zero]); (try simp only [Act.put, List.setIfInBounds_toArray, List.set_cons_zero, List.set_cons_succ]))
  (refine late_last (i := 20) (by kernel_rfl) rfl (by rfl) (by kernel_rfl) (fun K hK => ?_); go_simp)
  (refine hK.out _ _ ?_; clear hK; clear K; (try simp only [List.getElem_toArray, List.getElem_cons_succ, List.getElem_cons_zero]); (try simp only [Act.put, List.setIfInBounds_toArray, List.set_cons_zero, List.set_cons_succ]))
  (refine late_last (i := 21) (by kernel_rfl) rfl (by rfl) (by kernel_rfl) (fun K hK => ?_); go_simp)
  (refine hK.out _ _ ?_; clear hK; clear K; (try simp only [List.getElem_toArray, List.getElem_cons_succ, List.getElem_cons_zero]); (try simp only [Act.put, List.setIfInBounds_toArray, List.set_cons_zero, List.set_cons_succ]))
  (refine late_last (i := 22) (by kernel_rfl) rfl (by rfl) (by kernel_rfl) (fun K hK => ?_); go_simp)
  (refine hK.out _ _ ?_; clear hK; clear K; (try simp only [List.getElem_toArray, List.getElem_cons_succ, List.getElem_cons_zero]); (try simp only [Act.put, List.setIfInBounds_toArray, List.set_cons_zero, List.set_cons_succ]))
  (refine late_last (i := 23) (by kernel_rfl) rfl (by rfl) (by kernel_rfl) (fun K hK => ?_); go_simp)
  (refine hK.out _ _ ?_; clear hK; clear K; (try simp only [List.getElem_toArray, List.getElem_cons_succ, List.getElem_cons_zero]); (try simp only [Act.put, List.setIfInBounds_toArray, List.set_cons_zero, List.set_cons_succ]))
  (refine late_last (i := 24) (by kernel_rfl) rfl (by rfl) (by kernel_rfl) (fun K hK => ?_); go_simp)
  (refine hK.out _ _ ?_; clear hK; clear K; (try simp only [List.getElem_toArray, List.getElem_cons_succ, List.getElem_cons_zero]); (try simp only [Act.put, List.setIfInBounds_toArray, List.set_cons_zero, List.set_cons_succ]))
  refine late_done (by kernel_rfl) ?_
  refine gen (F := fun W6 => Hid (w5.grownBy W6 (some w.heap.size) ∧ ∀ k, w.heap.size + 2 ≤ k → W6.heap[k]? = w5.heap[k]?) ∧ (W6.cell? ⟨w.heap.size, 0, none⟩ = some (.int .i64 x0) ∧ W6.cell? ⟨w.heap.size, 1, none⟩ = some (.int .u8 i0) ∧ W6.cell? ⟨w.heap.size, 2, none⟩ = some (.int .u8 i1) ∧ W6.cell? ⟨w.heap.size, 3, none⟩ = some (.int .i64 i2) ∧ W6.cell? ⟨w.heap.size, 4, none⟩ = some (.slice B0 xg.length d0) ∧ W6.cell? ⟨w.heap.size, 5, none⟩ = some (.slice B1 xs.length d1) ∧ W6.cell? ⟨w.heap.size, 6, none⟩ = some (.slice B2 xt.length d2) ∧ W6.cell? ⟨w.heap.size, 7, none⟩ = some (.slice A3' xn.length d3) ∧ W6.cell? ⟨w.heap.size, 8, none⟩ = some (.slice B4 xl.length d4)) ∧ (W6.cell? ⟨w.heap.size + 1, 0, none⟩ = some (.int .i64 0) ∧ W6.cell? ⟨w.heap.size + 1, 1, none⟩ = some (.int .u8 0) ∧ W6.cell? ⟨w.heap.size + 1, 2, none⟩ = some (.int .u8 0) ∧ W6.cell? ⟨w.heap.size + 1, 3, none⟩ = some (.int .i64 0) ∧ W6.cell? ⟨w.heap.size + 1, 4, none⟩ = some (.slice none 0 0) ∧ W6.cell? ⟨w.heap.size + 1, 5, none⟩ = some (.slice none 0 0) ∧ W6.cell? ⟨w.heap.size + 1, 6, none⟩ = some (.slice none 0 0) ∧ W6.cell? ⟨w.heap.size + 1, 7, none⟩ = some (.slice none 0 0) ∧ W6.cell? ⟨w.heap.size + 1, 8, none⟩ = some (.slice none 0 0)) ∧ (∀ o, W6.frozen? ⟨w.heap.size, o, none⟩ = false) ∧ (∀ o, W6.frozen? ⟨w.heap.size + 1, o, none⟩ = false)) ⟨Lib.hid ⟨?_, ?_⟩, ?_, ?_, ?_, ?_⟩ ?_
  · repeat (first | with_reducible exact grown_refl _ _ | with_reducible refine grown_set ?_ _ _)
  · repeat (first | with_reducible refine hi_set ?_ _ _ (by simp) | with_reducible exact hi_refl _ _)
  · simp [go_sem, *]
  · simp [go_sem, *]
  · intro o; simp [go_sem, hfk1]
  · intro o; simp [go_sem, hfk2]
  rintro W6 ⟨HG, ⟨t0, t1, t2, t3, t4, t5, t6, t7, t8⟩, ⟨y0, y1, y2, y3, y4, y5, y6, y7, y8⟩, hfm1, hfm2⟩
  have hn5 : ∃ cur, w5.heap[w.heap.size]? = some (.cells cur 37 (0, 0)) := by
    obtain ⟨cur, hc⟩ := HN.out.2
    exact ⟨cur, (hBT5.block _ hn).trans hc⟩
  have HR := Lib.hid (show (I64.C 3 ⟨w.heap.size + 2, 0⟩ W6 B0 xg ∧ (Kd.sl 57 kSec).C 50 ⟨w.heap.size + 2, 0⟩ W6 B1 xs ∧ (Kd.sl 3 I64).C 30 ⟨w.heap.size + 2, 0⟩ W6 B2 xt ∧ I64.C 3 ⟨w.heap.size + 2, 0⟩ W6 B4 xl) from ⟨Kd.C_box HI5.out (by decide) (Nat.zero_le _) hn5 HG.out.1, Kd.C_box HO15.out (by decide) (Nat.zero_le _) hn5 HG.out.1, Kd.C_box HO25.out (by decide) (Nat.zero_le _) hn5 HG.out.1, Kd.C_box HO45.out (by decide) (Nat.zero_le _) hn5 HG.out.1⟩)
  have HT := Lib.hid (show (kFilt.OO 53 51 b (fun _ _ => b) w3.heap.size xn.length W6 (.slice A3' xn.length d3) xn vs3) from HO35.out.box (t := 37) (by decide) hb (fun _ _ => hb) (by omega) hn5 HG.out.1)
  have hB6 : Below w.heap.size w W6 := (below_then hBW hBT5).trans (grown_below HG.out.1 (Nat.le_refl _) (by have := hBT5.size; omega))
  have hs6 : w.heap.size + 2 ≤ W6.heap.size := by have := HN.out.1; have := hBT5.size; have := HG.out.1.size; omega
  have hmx : xn.length ≤ 9223372036854775807 := by omega
  clear HI5 HO15 HO25 HO35 HO45 HG hn5 hBT5 hfk1 hfk2 r0 r1 r2 r3 r4 r5 r6 r7 r8 p0 p1 p2 p3 p4 p5 p6 p7 p8 hf1 hf2 hn hn1 HN hBW KEY0 KEY1 KEY2 KEY3 KEY4
  go_wp2_with fail
  go_loopw [29] (fun i wr => ∃ k : Nat, k ≤ xn.length ∧ i = .int .i64 k ∧ Hid (I64.C 3 ⟨w.heap.size + 2, 0⟩ wr B0 xg ∧ (Kd.sl 57 kSec).C 50 ⟨w.heap.size + 2, 0⟩ wr B1 xs ∧ (Kd.sl 3 I64).C 30 ⟨w.heap.size + 2, 0⟩ wr B2 xt ∧ I64.C 3 ⟨w.heap.size + 2, 0⟩ wr B4 xl) ∧ Hid (kFilt.OO 53 51 b (fun i' _ => if i' < k then ⟨w.heap.size + 2, 0⟩ else b) w3.heap.size xn.length wr (.slice A3' xn.length d3) xn vs3) ∧ Below (w.heap.size + 2) W6 wr) (fun i _ => xn.length - (intOf i).toNat)
  case atStart => exact ⟨0, Nat.zero_le _, rfl, HR, by simpa using HT, Below.refl _ _⟩
  case round =>
    clear HR HT
    obtain ⟨k, hk, rfl, HR, HT, hB⟩ := hrel
    have hsr := hB.size
    by_cases hlt : k < xn.length
    · clear t0 t1 t2 t3 t4 t5 t6 t7 t8 y0 y1 y2 y3 y4 y5 y6 y7 y8 hfm1 hfm2
      obtain ⟨u, hu, hrow⟩ := HT.out.row k _ hlt (List.getElem?_eq_getElem hlt)
      rcases HT.out.form with ⟨_, h0⟩ | ⟨g, cap, hv, hg1, hg2, _, _, _⟩
      · exact absurd hlt (by simp [h0])
      injection hv with hv hv2 hv3
      subst hv
      subst hv3
      obtain ⟨hcell, hfro⟩ := HT.out.cell hu
      obtain ⟨A', c', rfl, hc1', hc2'⟩ : ∃ A' c', u = .slice A' xn[k].length c' ∧ xn[k].length ≤ c' ∧ c' ≤ maxLen := by
        rcases Kd.OZ_form hrow with ⟨h1, h2⟩ | ⟨g', cap, h1, _, _, h3, h4⟩
        · exact ⟨none, 0, by rw [h1, h2]; rfl, by rw [h2]; exact Nat.le_refl _, by simp [maxLen]⟩
        · exact ⟨_, _, h1, h3, h4⟩
      have HX := Lib.hid (List.getElem?_eq_getElem hlt)
      have hS := HS.out k
      rw [show xn.getD k [] = xn[k] by simp [List.getD_eq_getElem?_getD, hlt]] at hS
      have HS2 := Lib.hid hS
      have HU := Lib.hid hu
      clear hrow hS hu
      generalize xn[k] = X at *
      have hmX : X.length ≤ 9223372036854775807 := by simp only [maxLen] at hc2'; omega
      go_wp2_with fail
      go_loopw [35] (fun j wi => ∃ q : Nat, q ≤ X.length ∧ j = .int .i64 q ∧ Hid (I64.C 3 ⟨w.heap.size + 2, 0⟩ wi B0 xg ∧ (Kd.sl 57 kSec).C 50 ⟨w.heap.size + 2, 0⟩ wi B1 xs ∧ (Kd.sl 3 I64).C 30 ⟨w.heap.size + 2, 0⟩ wi B2 xt ∧ I64.C 3 ⟨w.heap.size + 2, 0⟩ wi B4 xl) ∧ Hid (kFilt.OO 53 51 b (fun i' j => if i' < k ∨ (i' = k ∧ j < q) then ⟨w.heap.size + 2, 0⟩ else b) w3.heap.size xn.length wi (.slice (some ⟨g, 0, none⟩) xn.length d3) xn vs3) ∧ Below (w.heap.size + 2) W6 wi) (fun j _ => X.length - (intOf j).toNat)
      case atStart => exact ⟨0, Nat.zero_le _, rfl, HR, Lib.hid (HT.out.rezone (fun i' xs' j _ _ => by simp)), hB⟩
      case round =>
        clear HR HT hB
        obtain ⟨q, hq, rfl, HR, HT, hB⟩ := hrel
        have hsi := hB.size
        by_cases hql : q < X.length
        · obtain ⟨u2, hu2, hrow⟩ := HT.out.row k X hlt HX.out
          rw [HU.out] at hu2
          injection hu2 with hu2
          subst hu2
          rcases Kd.OZ_form hrow with ⟨_, h0⟩ | ⟨g', cap', hv, hg'1, hg'2, _, _⟩
          · exact absurd hql (by simp [h0])
          injection hv with hv hv2 hv3
          subst hv
          subst hv3
          obtain ⟨cs, hK, hcs, hfz, _, _⟩ := Kd.OZ_at hrow hql
          rw [if_neg (by omega)] at hK
          obtain ⟨Aq, cq, rfl, _, _, hq1, hq2, hCq⟩ := K_filt.1 hK
          have h4 := hcs 4 _ rfl
          simp only [show kFilt.sz = 5 from rfl] at h4
          have hf4 := hfz (q * 5 + 4)
          have hSq := HS2.out q
          have HQ := Lib.hid (List.getElem?_eq_getElem hql)
          rw [show X.getD q default = X[q] by simp [List.getD_eq_getElem?_getD, hql]] at hSq
          have key := clone_int Aq cq b X[q].coefs wr hCq (by omega) (by omega)
          have KY := Lib.hid key
          clear key hCq hK hcs hfz hrow
          generalize X[q] = xq at *
          go_wp2_with (go_at_call 26; refine KY.out.mono ?_; rintro e w' ⟨v, rfl, hO, hB1⟩; obtain ⟨Av, cv, rfl, hl1, hl2, hl3⟩ := O_i64 hO ⟨w.heap.size + 2, 0⟩ (by dsimp only; omega); have HL := Lib.hid (And.intro hl1 hl2); have HO := Lib.hid hl3; have HB1 := Lib.hid hB1; have hc4 := (hB1.cell (p := ⟨g', q * 5 + 4, none⟩) hg'2).trans h4; have hf5 := (hB1.frozen (p := ⟨g', q * 5 + 4, none⟩) hg'2).trans hf4; have hgs := hB1.size; clear hO hl1 hl2 hl3 hB1)
          obtain ⟨hin, hmet⟩ := Kd.inner_coefs (Y := ⟨w.heap.size + 2, 0⟩) (HT.out.below HB1.out) (fun i j => by split <;> (try dsimp only) <;> omega) (Nat.zero_le _) HX.out HU.out HQ.out HL.out.1 HL.out.2 HO.out
          rw [Kd.zone_next] at hin
          have hR := HR.out
          have HR2 := Lib.hid (And.intro (Kd.C_chg (Kd.C_below hR.1 HB1.out) (hmet _ (by decide) _ (Nat.zero_le _))) (And.intro (Kd.C_chg (Kd.C_below hR.2.1 HB1.out) (hmet _ (by decide) _ (Nat.zero_le _))) (And.intro (Kd.C_chg (Kd.C_below hR.2.2.1 HB1.out) (hmet _ (by decide) _ (Nat.zero_le _))) (Kd.C_chg (Kd.C_below hR.2.2.2 HB1.out) (hmet _ (by decide) _ (Nat.zero_le _))))))
          have HT2 := Lib.hid hin
          have hB2 := (hB.trans (HB1.out.mono (by omega))).setCell (p := ⟨g', q * 5 + 4, none⟩) (by dsimp only; omega) (.slice Av xq.coefs.length cv)
          clear hin hmet hR
          go_roundw
          case rel => exact ⟨q + 1, by omega, by go_num, HR2, HT2, hB2⟩
          case measure => simp [intOf]; omega
        · obtain rfl : q = X.length := by omega
          go_wp2_with fail
          all_goals
            go_roundw
            case rel => exact ⟨k + 1, by omega, by go_num, HR, Lib.hid (HT.out.rezone (fun i' xs' j hx hj => Kd.zone_row HX.out hx hj)), hB⟩
            case measure => simp [intOf]; omega
    · obtain rfl : k = xn.length := by omega
      have hcw := box_keep6 hB (show w.heap.size < w.heap.size + 2 by omega)
      have hcv := box_keep6 hB (show w.heap.size + 1 < w.heap.size + 2 by omega)
      simp only [← hcw.1] at t0 t1 t2 t3 t4 t5 t6 t7 t8
      simp only [← hcv.1] at y0 y1 y2 y3 y4 y5 y6 y7 y8
      simp only [← hcw.2] at hfm1
      simp only [← hcv.2] at hfm2
      have HT2 := Lib.hid (Kd.O_C ((HT.out.rezone (z' := fun _ _ => ⟨w.heap.size + 2, 0⟩) (fun i' xs' j hx _ => if_pos (List.getElem?_eq_some_iff.1 hx).1)).read (Nat.le_refl _) (by decide) (fun _ _ => ⟨Nat.le_refl _, Nat.le_refl _⟩) hsz) Nat.zero_lt_one ⟨Nat.le_refl _, Nat.le_refl _⟩ hsz)
      have hB7 := hB6.trans (hB.mono (by omega))
      clear HT hcw hcv hB hB6
      go_wp2_with fail
      refine bodyPost_ret (v := .agg #[.int .i64 x0, .int .u8 i0, .int .u8 i1, .int .i64 i2, .slice B0 xg.length d0, .slice B1 xs.length d1, .slice B2 xt.length d2, .slice A3' xn.length d3, .slice B4 xl.length d4]) (by simp [results, Try.results13, go_sem, *]) rfl ⟨[_, _, _, _, _, _, _, _, _], rfl, ?_, (by repeat (first | with_reducible exact Below.refl _ _ | with_reducible assumption | with_reducible refine Below.drew ?_ | with_reducible refine below_drewN ?_ _ | (with_reducible refine Below.alloc ?_ ?_ _; rotate_left 1; focus (first | (simp; done) | (simp; omega) | omega)) | (with_reducible refine Below.setCell ?_ ?_ _; rotate_left 1; focus (first | (simp; done) | (simp; omega) | omega))))⟩
      obtain ⟨A5, d5, e5, _, _, hT⟩ := HT2.out
      injection e5 with e5 e6 e7
      subst e5
      have hh : ∀ k, w.heap.size + 2 ≤ k → (((((((((wr.setCell ⟨w.heap.size + 1, 0, none⟩ (.int .i64 x0)).setCell ⟨w.heap.size + 1, 1, none⟩ (.int .u8 i0)).setCell ⟨w.heap.size + 1, 2, none⟩ (.int .u8 i1)).setCell ⟨w.heap.size + 1, 3, none⟩ (.int .i64 i2)).setCell ⟨w.heap.size + 1, 4, none⟩ (.slice B0 xg.length d0)).setCell ⟨w.heap.size + 1, 5, none⟩ (.slice B1 xs.length d1)).setCell ⟨w.heap.size + 1, 6, none⟩ (.slice B2 xt.length d2)).setCell ⟨w.heap.size + 1, 7, none⟩ (.slice A3' xn.length d3)).setCell ⟨w.heap.size + 1, 8, none⟩ (.slice B4 xl.length d4)).heap[k]? = wr.heap[k]? := by repeat (first | with_reducible refine hi_set ?_ _ _ (by simp) | with_reducible exact hi_refl _ _)
      exact K_chn.2 ⟨B0, d0, B1, d1, B2, d2, A3', d3, B4, d4, rfl, ‹_›, ⟨ri0, ri1, ri2, hg0, hd0, Kd.C_hi HR.out.1 hh ⟨by simp [Zn.new], Nat.le_refl _⟩⟩, ⟨hg1, hd1, Kd.C_hi HR.out.2.1 hh ⟨by simp [Zn.new], Nat.le_refl _⟩⟩, ⟨hg2, hd2, Kd.C_hi HR.out.2.2.1 hh ⟨by simp [Zn.new], Nat.le_refl _⟩⟩, ⟨hg3, hd3, Kd.C_hi hT hh ⟨by simp [Zn.new], Nat.le_refl _⟩⟩, ⟨hg4, hd4, Kd.C_hi HR.out.2.2.2 hh ⟨by simp [Zn.new], Nat.le_refl _⟩⟩⟩
end Go.Proofs.Ytagihamgaidikaa
