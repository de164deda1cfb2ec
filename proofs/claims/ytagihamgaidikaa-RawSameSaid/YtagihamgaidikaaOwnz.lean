/- Rows of a call's own whose elements lie in zones of their own, element by element; stores into them. -/
import Derived.Test.YtagihamgaidikaaOwn
set_option linter.unusedVariables false
set_option linter.unusedSimpArgs false
namespace Go.Proofs.Ytagihamgaidikaa
open Go.RowKit
namespace Kd
variable {α : Type}
/-- Element i's cells, in the row's list. -/
def cut (sz : Nat) (cs : List Value) (i : Nat) : List Value := (cs.drop (i * sz)).take sz
def OZ (d : Kd α) (e : Nat) (z : Nat → Zn) (base : Nat) (w : World) (v : Value) (xs : List α) : Prop :=
  ∃ cs, w.ownsRow base e d.sz v xs.length cs ∧ ∀ j x, xs[j]? = some x → d.K (z j) w x (cut d.sz cs j)
theorem OZ_of {d : Kd α} {e : Nat} {b : Zn} {base : Nat} {w : World} {v : Value} {xs : List α} (h : d.O e b base w v xs) : d.OZ e (fun _ => b) base w v xs := by
  obtain ⟨cs, ho, hr⟩ := h
  exact ⟨cs, ho, fun j x hx => hr.get j x hx⟩
theorem OZ_O {d : Kd α} {e : Nat} {z : Nat → Zn} {b : Zn} {base : Nat} {w : World} {v : Value} {xs : List α} (h : d.OZ e z base w v xs) (hz : ∀ j, j < xs.length → (z j).le b) : d.O e b base w v xs := by
  obtain ⟨cs, ho, hr⟩ := h
  exact ⟨cs, ho, Reps.of_get ho.1 (fun j x hx => d.mono (hz j (List.getElem?_eq_some_iff.1 hx).1) (hr j x hx))⟩
theorem OZ_below {d : Kd α} {e : Nat} {z : Nat → Zn} {base : Nat} {w w1 : World} {v : Value} {xs : List α} (h : d.OZ e z base w v xs) (hb : Below w.heap.size w w1) : d.OZ e z base w1 v xs := by
  obtain ⟨cs, ho, hr⟩ := h
  exact ⟨cs, ho.kept (row := none) ⟨hb.os, hb.tape, hb.output, hb.size, fun k hk _ => hb.block k hk⟩ (by cases v.ownBlock <;> simp), fun j x hx => K_below (hr j x hx) hb⟩
theorem getElem?_cut {sz : Nat} {cs : List Value} {i j : Nat} (hj : j < sz) : (cut sz cs i)[j]? = cs[i * sz + j]? := by
  simp [cut, List.getElem?_take, hj, List.getElem?_drop]
theorem div_eq_of {i j f sz : Nat} (hf : f < sz) (hj : i * sz + f = j) : j / sz = i := by
  subst hj
  rw [Nat.mul_comm, Nat.mul_add_div (by omega), Nat.div_eq_of_lt hf, Nat.add_zero]
theorem cut_set_other {sz : Nat} {cs : List Value} {i k f : Nat} {u : Value} (hf : f < sz) (hk : k ≠ i) : cut sz (cs.set (i * sz + f) u) k = cut sz cs k := by
  apply List.ext_getElem?
  intro j
  by_cases hj : j < sz
  · rw [getElem?_cut hj, getElem?_cut hj, List.getElem?_set_ne]
    intro h
    have h1 := div_eq_of (i := k) hj rfl
    have h2 := div_eq_of (i := i) hf rfl
    rw [h] at h2
    omega
  · simp [cut, List.getElem?_take, hj]
theorem cut_set_same {sz : Nat} {cs : List Value} {i f : Nat} {u : Value} (hf : f < sz) : cut sz (cs.set (i * sz + f) u) i = (cut sz cs i).set f u := by
  apply List.ext_getElem?
  intro j
  by_cases hj : j < sz
  · rw [getElem?_cut hj]
    by_cases hjf : f = j
    · subst hjf
      by_cases hl : i * sz + f < cs.length
      · rw [List.getElem?_set_self hl, List.getElem?_set_self]
        simp [cut, List.length_take, List.length_drop]; omega
      · rw [List.getElem?_eq_none (by simp; omega), List.getElem?_eq_none]
        simp [cut, List.length_take, List.length_drop]; omega
    · rw [List.getElem?_set_ne (by omega), List.getElem?_set_ne hjf, getElem?_cut hj]
  · rw [List.getElem?_eq_none (by simp [cut]; omega), List.getElem?_eq_none (by simp [cut]; omega)]
/-- A store into element i's cell f. -/
theorem OZ_set {d : Kd α} {e : Nat} {z : Nat → Zn} {y : Zn} {base : Nat} {w : World} {g n cap : Nat} {xs : List α} (h : d.OZ e z base w (.slice (some ⟨g, 0, none⟩) n cap) xs) (hE : e ∉ d.E) (hz : ∀ j, j < xs.length → (z j).hi ≤ base) (hy : y.hi ≤ base)
    {i f : Nat} {u : Value} {x : α} (hi : i < xs.length) (hf : f < d.sz) (hx : ∀ cs, d.K (z i) w (xs[i]) cs → d.K y w x (cs.set f u)) :
    d.OZ e (fun j => if j = i then y else z j) base (w.setCell ⟨g, i * d.sz + f, none⟩ u) (.slice (some ⟨g, 0, none⟩) n cap) (xs.set i x) := by
  obtain ⟨cs, ho, hr⟩ := h
  have hn : n = xs.length := by
    rcases ho.2 with ⟨h, _⟩ | ⟨g', cap', cur, hv, _⟩
    · cases h
    · simp only [Value.slice.injEq] at hv
      exact hv.2.1
  subst hn
  have hs := ho.stored (i * d.sz + f) u
  have hmet : ∀ (b : Zn), b.hi ≤ base → ∀ k, b.met d.E w k → (w.setCell ⟨g, i * d.sz + f, none⟩ u).heap[k]? = w.heap[k]? := fun b hb => met_own ho hE hb (by simpa [Value.ownBlock] using hs.2)
  refine ⟨_, by simpa using hs.1, fun j x' hx' => ?_⟩
  by_cases hji : j = i
  · subst hji
    rw [List.getElem?_set_self hi] at hx'
    injection hx' with hx'
    subst hx'
    simp only [if_true]
    rw [cut_set_same hf]
    exact d.chg (hmet y hy) (hx _ (hr j _ (List.getElem?_eq_getElem hi)))
  · rw [List.getElem?_set_ne (fun e => hji e.symm)] at hx'
    simp only [if_neg hji]
    rw [cut_set_other hf hji]
    exact d.chg (hmet _ (hz j (List.getElem?_eq_some_iff.1 hx').1)) (hr j x' hx')
/-- Element i, its cells, where they lie. -/
theorem OZ_at {d : Kd α} {e : Nat} {z : Nat → Zn} {base : Nat} {w : World} {g n cap : Nat} {xs : List α} (h : d.OZ e z base w (.slice (some ⟨g, 0, none⟩) n cap) xs) {i : Nat} (hi : i < xs.length) :
    ∃ cs, d.K (z i) w (xs[i]) cs ∧ (∀ j u, cs[j]? = some u → w.cell? ⟨g, i * d.sz + j, none⟩ = some u) ∧ (∀ j, w.frozen? ⟨g, j, none⟩ = false) ∧ base ≤ g ∧ g < w.heap.size := by
  obtain ⟨cs, ho, hr⟩ := h
  refine ⟨_, hr i _ (List.getElem?_eq_getElem hi), fun j u hu => ?_, ?_⟩
  · have hj : j < d.sz := by
      rcases Nat.lt_or_ge j d.sz with hj | hj
      · exact hj
      · rw [List.getElem?_eq_none (by simp [cut]; omega)] at hu; cases hu
    rw [getElem?_cut hj] at hu
    have := ho.cells (g := g) rfl _ u hu
    rw [add_plain] at this
    simpa using this
  · rcases ho.2 with ⟨h, _⟩ | ⟨g', cap', cur, hv, hg, hh, _⟩
    · cases h
    · simp only [Value.slice.injEq, Option.some.injEq, Addr.mk.injEq] at hv
      obtain ⟨⟨rfl, _⟩, _⟩ := hv
      exact ⟨fun j => frozen_of_row w g j cur e hh, hg, (Array.getElem?_eq_some_iff.1 hh).1⟩
/-- What a row of one's own looks like. -/
theorem OZ_form {d : Kd α} {e : Nat} {z : Nat → Zn} {base : Nat} {w : World} {v : Value} {xs : List α} (h : d.OZ e z base w v xs) : (v = .slice none 0 0 ∧ xs = []) ∨ ∃ g cap, v = .slice (some ⟨g, 0, none⟩) xs.length cap ∧ base ≤ g ∧ g < w.heap.size ∧ xs.length ≤ cap ∧ cap ≤ maxLen := by
  obtain ⟨cs, ho, hr⟩ := h
  rcases ho.2 with ⟨hv, h0⟩ | ⟨g, cap, cur, hv, hg, hh, hn, hm, _⟩
  · exact .inl ⟨hv, List.eq_nil_of_length_eq_zero h0⟩
  · exact .inr ⟨g, cap, hv, hg, (Array.getElem?_eq_some_iff.1 hh).1, hn, hm⟩
end Kd
theorem set_getD {α : Type} {xs : List α} {i : Nat} (hi : i < xs.length) : xs.set i xs[i] = xs := by simp
end Go.Proofs.Ytagihamgaidikaa
