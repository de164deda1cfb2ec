/- Rows of rows of a call's own: the first k inner rows are the call's own, and none of them is another one. -/
import Derived.Test.YtagihamgaidikaaOwnz
set_option linter.unusedVariables false
set_option linter.unusedSimpArgs false
namespace Go.Proofs.Ytagihamgaidikaa
open Go.RowKit
/-- The zone of what is made from world w on. -/
def Zn.new (w : World) : Zn := ⟨w.heap.size, 0⟩
namespace Kd
variable {α : Type}
structure OO (d : Kd α) (e1 e2 : Nat) (b : Zn) (z : Nat → Nat → Zn) (base k : Nat) (w : World) (v : Value) (xss : List (List α)) (vs : List Value) : Prop where
  own : w.ownsRow base e2 1 v xss.length vs
  row : ∀ i xs, i < k → xss[i]? = some xs → ∃ u, vs[i]? = some u ∧ d.OZ e1 (z i) base w u xs
  old : ∀ i xs, k ≤ i → xss[i]? = some xs → ∃ u, vs[i]? = some u ∧ (Kd.sl e1 d).K b w xs [u]
  apart : ∀ i j u u', i < k → j < k → i ≠ j → vs[i]? = some u → vs[j]? = some u' → u.ownBlock = none ∨ u.ownBlock ≠ u'.ownBlock
theorem OO.len {d : Kd α} {e1 e2 : Nat} {b : Zn} {z : Nat → Nat → Zn} {base k : Nat} {w : World} {v : Value} {xss : List (List α)} {vs : List Value} (h : d.OO e1 e2 b z base k w v xss vs) : vs.length = xss.length := by
  have := h.own.1
  omega
theorem OO_start {d : Kd α} {e1 e2 : Nat} {b : Zn} {z : Nat → Nat → Zn} {base : Nat} {w : World} {v : Value} {xss : List (List α)} (h : (Kd.sl e1 d).O e2 b base w v xss) : ∃ vs, d.OO e1 e2 b z base 0 w v xss vs := by
  obtain ⟨cs, ho, hr⟩ := h
  refine ⟨cs, ho, fun i xs hi => absurd hi (Nat.not_lt_zero _), fun i xs _ hx => ?_, fun i j u u' hi => absurd hi (Nat.not_lt_zero _)⟩
  have h1 := hr.get i xs hx
  obtain ⟨A, c, hc, r⟩ := h1
  refine ⟨_, ?_, A, c, rfl, r⟩
  have h2 : (cut 1 cs i)[0]? = some (.slice A xs.length c) := by
    show (List.take 1 (List.drop (i * 1) cs))[0]? = _
    have hc' : List.take 1 (List.drop (i * 1) cs) = [Value.slice A xs.length c] := hc
    rw [hc']; rfl
  rw [getElem?_cut (by omega)] at h2
  simpa using h2
theorem OO.below {d : Kd α} {e1 e2 : Nat} {b : Zn} {z : Nat → Nat → Zn} {base k : Nat} {w w1 : World} {v : Value} {xss : List (List α)} {vs : List Value} (h : d.OO e1 e2 b z base k w v xss vs) (hb : Below w.heap.size w w1) : d.OO e1 e2 b z base k w1 v xss vs where
  own := h.own.kept (row := none) ⟨hb.os, hb.tape, hb.output, hb.size, fun k hk _ => hb.block k hk⟩ (by cases v.ownBlock <;> simp)
  row i xs hi hx := by
    obtain ⟨u, hu, ho⟩ := h.row i xs hi hx
    exact ⟨u, hu, OZ_below ho hb⟩
  old i xs hi hx := by
    obtain ⟨u, hu, hk⟩ := h.old i xs hi hx
    exact ⟨u, hu, K_below hk hb⟩
  apart := h.apart
/-- Where the outer row lies. -/
theorem OO.form {d : Kd α} {e1 e2 : Nat} {b : Zn} {z : Nat → Nat → Zn} {base k : Nat} {w : World} {v : Value} {xss : List (List α)} {vs : List Value} (h : d.OO e1 e2 b z base k w v xss vs) :
    (v = .slice none 0 0 ∧ xss = []) ∨ ∃ g cap, v = .slice (some ⟨g, 0, none⟩) xss.length cap ∧ base ≤ g ∧ g < w.heap.size ∧ xss.length ≤ cap ∧ cap ≤ maxLen ∧ (∃ cur, w.heap[g]? = some (.cells cur e2 (0, 0))) := by
  rcases h.own.2 with ⟨hv, h0⟩ | ⟨g, cap, cur, hv, hg, hh, hn, hm, _⟩
  · exact .inl ⟨hv, List.eq_nil_of_length_eq_zero h0⟩
  · exact .inr ⟨g, cap, hv, hg, (Array.getElem?_eq_some_iff.1 hh).1, hn, hm, cur, hh⟩
theorem OO.cell {d : Kd α} {e1 e2 : Nat} {b : Zn} {z : Nat → Nat → Zn} {base k : Nat} {w : World} {g n cap : Nat} {xss : List (List α)} {vs : List Value} (h : d.OO e1 e2 b z base k w (.slice (some ⟨g, 0, none⟩) n cap) xss vs) {i : Nat} {u : Value} (hu : vs[i]? = some u) :
    w.cell? ⟨g, i, none⟩ = some u ∧ w.frozen? ⟨g, i, none⟩ = false := by
  have h1 := h.own.cells (g := g) rfl i u hu
  rw [add_plain] at h1
  refine ⟨by simpa using h1, ?_⟩
  rcases h.own.2 with ⟨h, _⟩ | ⟨g', cap', cur, hv, hg, hh, _⟩
  · cases h
  · simp only [Value.slice.injEq, Option.some.injEq, Addr.mk.injEq] at hv
    obtain ⟨⟨rfl, _⟩, _⟩ := hv
    exact frozen_of_row w g i cur e2 hh
/-- A row of type e1 doesn't lie where one of type e2 does. -/
theorem own_block_ne {w : World} {base base' e1 e2 s1 s2 n1 n2 : Nat} {u v : Value} {xs ys : List Value} (h : w.ownsRow base e1 s1 u n1 xs) (k : w.ownsRow base' e2 s2 v n2 ys) (he : e1 ≠ e2) : u.ownBlock = none ∨ u.ownBlock ≠ v.ownBlock := by
  rcases h.2 with ⟨rfl, _⟩ | ⟨g, cap, cur, rfl, _, hh, _⟩
  · exact .inl rfl
  · refine .inr fun hk => ?_
    rcases k.2 with ⟨rfl, _⟩ | ⟨g', cap', cur', rfl, _, hh', _⟩
    · simp [Value.ownBlock] at hk
    · simp only [Value.ownBlock, Option.some.injEq] at hk
      subst hk
      rw [hh] at hh'
      simp only [Option.some.injEq, Obj.cells.injEq] at hh'
      exact he hh'.2.1
/-- Inner row k becomes a new row u, made in a world behind. -/
theorem OO.set {d : Kd α} {e1 e2 : Nat} {b : Zn} {z : Nat → Nat → Zn} {base k : Nat} {w : World} {g n cap : Nat} {xss : List (List α)} {vs : List Value} (h : d.OO e1 e2 b z base k w (.slice (some ⟨g, 0, none⟩) n cap) xss vs)
    (he : e1 ≠ e2) (hE : e2 ∉ d.E) (hb : b.hi ≤ base) (hz : ∀ i j, (z i j).hi ≤ base) {xs : List α} (hx : xss[k]? = some xs) {u : Value} {nb : Nat} (hu : d.OZ e1 (z k) nb w u xs) (hnb : base ≤ nb) (hlow : ∀ i u', i < k → vs[i]? = some u' → ∀ g', u'.ownBlock = some g' → g' < nb) :
    d.OO e1 e2 b z base (k + 1) (w.setCell ⟨g, k, none⟩ u) (.slice (some ⟨g, 0, none⟩) n cap) xss (vs.set k u) := by
  have hn : n = xss.length := by
    rcases h.own.2 with ⟨h, _⟩ | ⟨g', cap', cur, hv, _⟩
    · cases h
    · simp only [Value.slice.injEq] at hv
      exact hv.2.1
  subst hn
  have hlen := h.len
  have hkl := (List.getElem?_eq_some_iff.1 hx).1
  have hs := h.own.stored k u
  have hgr : w.grownBy (w.setCell ⟨g, k, none⟩ u) (Value.slice (some ⟨g, 0, none⟩) xss.length cap).ownBlock := by simpa [Value.ownBlock] using hs.2
  have hmet : ∀ (b : Zn), b.hi ≤ base → ∀ E, e2 ∉ E → ∀ k', b.met E w k' → (w.setCell ⟨g, k, none⟩ u).heap[k']? = w.heap[k']? := fun b hb E hE => met_own h.own hE hb hgr
  have hrow : ∀ {zz : Nat → Zn} {nb : Nat} {u' : Value} {ys : List α}, base ≤ nb → (∀ j, (zz j).hi ≤ base) → d.OZ e1 zz nb w u' ys → d.OZ e1 zz base (w.setCell ⟨g, k, none⟩ u) u' ys := by
    rintro zz nb u' ys hnb hzz ⟨cs, ho, hr⟩
    refine ⟨cs, ⟨(ho.kept hgr (own_block_ne ho h.own he)).1, ?_⟩, fun j x hx => d.chg (hmet _ (hzz j) _ hE) (hr j x hx)⟩
    rcases (ho.kept hgr (own_block_ne ho h.own he)).2 with h2 | ⟨g', cap', cur, hv, hg, r⟩
    · exact .inl h2
    · exact .inr ⟨g', cap', cur, hv, Nat.le_trans hnb hg, r⟩
  refine ⟨hs.1, fun i ys hi hy => ?_, fun i ys hi hy => ?_, fun i j u1 u2 hi hj hij h1 h2 => ?_⟩
  · by_cases hik : i = k
    · subst hik
      rw [hx] at hy
      injection hy with hy
      subst hy
      exact ⟨u, List.getElem?_set_self (by omega), hrow hnb (hz i) hu⟩
    · obtain ⟨u', hu', ho⟩ := h.row i ys (by omega) hy
      exact ⟨u', by rw [List.getElem?_set_ne (fun e => hik e.symm)]; exact hu', hrow (Nat.le_refl _) (hz i) ho⟩
  · obtain ⟨u', hu', ho⟩ := h.old i ys (by omega) hy
    refine ⟨u', by rw [List.getElem?_set_ne (by omega)]; exact hu', (Kd.sl e1 d).chg (hmet b hb _ ?_) ho⟩
    simp only [Kd.sl, List.mem_cons, not_or]
    exact ⟨fun e => he e.symm, hE⟩
  · have hul : ∀ g', u.ownBlock = some g' → nb ≤ g' := by
      obtain ⟨cs, ho, _⟩ := hu
      exact fun g' hg' => (ho.lt g' hg').1
    by_cases hik : i = k
    · subst hik
      rw [List.getElem?_set_self (by omega)] at h1
      injection h1 with h1
      subst h1
      rw [List.getElem?_set_ne hij] at h2
      cases hb1 : u.ownBlock with
      | none => exact .inl rfl
      | some g1 =>
        refine .inr fun e => ?_
        have := hlow j u2 (by omega) h2 g1 e.symm
        have := hul g1 hb1
        omega
    · rw [List.getElem?_set_ne (fun e => hik e.symm)] at h1
      by_cases hjk : j = k
      · subst hjk
        rw [List.getElem?_set_self (by omega)] at h2
        injection h2 with h2
        subst h2
        cases hb1 : u1.ownBlock with
        | none => exact .inl rfl
        | some g1 =>
          refine .inr fun e => ?_
          have := hlow i u1 (by omega) h1 g1 hb1
          have := hul g1 e.symm
          omega
      · rw [List.getElem?_set_ne (fun e => hjk e.symm)] at h2
        exact h.apart i j u1 u2 (by omega) (by omega) hij h1 h2
/-- Inner rows lie in the world. -/
theorem OO.low {d : Kd α} {e1 e2 : Nat} {b : Zn} {z : Nat → Nat → Zn} {base k : Nat} {w : World} {v : Value} {xss : List (List α)} {vs : List Value} (h : d.OO e1 e2 b z base k w v xss vs) : ∀ i u', i < k → vs[i]? = some u' → ∀ g', u'.ownBlock = some g' → g' < w.heap.size := by
  intro i u' hi hu g' hg'
  have hl := (List.getElem?_eq_some_iff.1 hu).1
  rw [h.len] at hl
  obtain ⟨u, hu1, cs, ho, _⟩ := h.row i _ hi (List.getElem?_eq_getElem hl)
  rw [hu] at hu1
  injection hu1 with hu1
  subst hu1
  exact (ho.lt g' hg').2
/-- All rows are the call's own: how they read. -/
theorem OO.read {d : Kd α} {e1 e2 : Nat} {b y : Zn} {z : Nat → Nat → Zn} {base k : Nat} {w : World} {v : Value} {xss : List (List α)} {vs : List Value} (h : d.OO e1 e2 b z base k w v xss vs) (hk : xss.length ≤ k) (hs : 0 < d.sz) (hz : ∀ i j, (z i j).le y) (hy : y.lo ≤ base) :
    (Kd.sl e1 d).O e2 y base w v xss := by
  refine ⟨vs, h.own, Reps.of_get h.own.1 (fun i xs hx => ?_)⟩
  have hl := (List.getElem?_eq_some_iff.1 hx).1
  obtain ⟨u, hu, ho⟩ := h.row i xs (by omega) hx
  have hO : d.O e1 y base w u xs := OZ_O ho (fun j _ => hz i j)
  obtain ⟨A, c, rfl, h1, h2, h3⟩ := O_C hO hs ⟨Nat.le_refl _, Nat.le_refl _⟩ hy
  have hc : (vs.drop (i * 1)).take 1 = [Value.slice A xs.length c] := by
    have hl2 := (List.getElem?_eq_some_iff.1 hu).1
    rw [Nat.mul_one, List.drop_eq_getElem_cons hl2]
    simp [(List.getElem?_eq_some_iff.1 hu).2]
  show (Kd.sl e1 d).K y w xs ((vs.drop (i * 1)).take 1)
  rw [hc]
  exact ⟨A, c, rfl, h1, h2, h3⟩
/-- A store into inner row i, of type e1: the other rows stay. -/
theorem OO.inner {d : Kd α} {e1 e2 : Nat} {b : Zn} {z : Nat → Nat → Zn} {base k : Nat} {w : World} {v : Value} {xss : List (List α)} {vs : List Value} (h : d.OO e1 e2 b z base k w v xss vs) (hk : xss.length ≤ k)
    (he : e1 ≠ e2) (hE : e1 ∉ d.E) (hz : ∀ i j, (z i j).hi ≤ base) {i g n cap : Nat} (hi : vs[i]? = some (.slice (some ⟨g, 0, none⟩) n cap)) {w1 : World} (hg : w.grownBy w1 (some g)) {zi : Nat → Zn} {xs : List α} (hu : d.OZ e1 zi base w1 (.slice (some ⟨g, 0, none⟩) n cap) xs) :
    d.OO e1 e2 b (fun i' => if i' = i then zi else z i') base k w1 v (xss.set i xs) vs := by
  have hlen := h.len
  have hil := (List.getElem?_eq_some_iff.1 hi).1
  obtain ⟨u0, hu0, cs0, ho0, hr0⟩ := h.row i _ (by omega) (List.getElem?_eq_getElem (show i < xss.length by omega))
  rw [hi] at hu0
  injection hu0 with hu0
  subst hu0
  refine ⟨?_, fun i' ys hi' hy => ?_, fun i' ys hi' hy => ?_, h.apart⟩
  · rw [List.length_set]
    exact h.own.kept hg (by
      rcases own_block_ne h.own ho0 (fun e => he e.symm) with h1 | h1
      · exact .inl h1
      · exact .inr (by simpa [Value.ownBlock] using h1))
  · by_cases hii : i' = i
    · subst hii
      rw [List.getElem?_set_self (by omega)] at hy
      injection hy with hy
      subst hy
      exact ⟨_, hi, by simpa using hu⟩
    · rw [List.getElem?_set_ne (fun e => hii e.symm)] at hy
      obtain ⟨u', hu', cs, ho, hr⟩ := h.row i' ys hi' hy
      refine ⟨u', hu', cs, ho.kept hg ?_, fun j x hx => ?_⟩
      · rcases h.apart i' i u' _ hi' (by omega) hii hu' hi with h1 | h1
        · exact .inl h1
        · exact .inr (by simpa [Value.ownBlock] using h1)
      · simp only [if_neg hii]
        exact d.chg (met_own ho0 hE (hz i' j) (by simpa [Value.ownBlock] using hg)) (hr j x hx)
  · exact absurd (List.getElem?_eq_some_iff.1 hy).1 (by simp; omega)
end Kd
end Go.Proofs.Ytagihamgaidikaa
