/- A whole element stored into a row of one's own; the rows beside it stay. -/
import Derived.Test.YtagihamgaidikaaTwinl
set_option linter.unusedVariables false
set_option linter.unusedSimpArgs false
namespace Go.Proofs.Ytagihamgaidikaa
open Go.RowKit
/-- vs laid over cs from place o on. -/
def lay (cs : List Value) (o : Nat) : List Value → List Value
  | [] => cs
  | v :: r => lay (cs.set o v) (o + 1) r
theorem lay_length : ∀ (vs : List Value) (cs : List Value) (o : Nat), (lay cs o vs).length = cs.length
  | [], _, _ => rfl
  | v :: r, cs, o => by rw [lay, lay_length r]; simp
theorem lay_get : ∀ (vs : List Value) (cs : List Value) (o j : Nat), (lay cs o vs)[j]? = if o ≤ j ∧ j < o + vs.length ∧ j < cs.length then vs[j - o]? else cs[j]?
  | [], cs, o, j => by rw [lay, if_neg]; simp only [List.length_nil]; omega
  | v :: r, cs, o, j => by
    rw [lay, lay_get r, List.length_set, List.length_cons]
    by_cases hjo : j = o
    · subst hjo
      rw [if_neg (by omega)]
      by_cases hl : j < cs.length
      · rw [if_pos (by omega), List.getElem?_set_self hl]; simp
      · rw [if_neg (by omega), List.getElem?_eq_none (by simp; omega), List.getElem?_eq_none (by omega)]
    · rw [List.getElem?_set_ne (fun e => hjo e.symm)]
      by_cases hc : o + 1 ≤ j ∧ j < o + 1 + r.length ∧ j < cs.length
      · rw [if_pos hc, if_pos (by omega), show j - o = (j - (o + 1)) + 1 by omega, List.getElem?_cons_succ]
      · rw [if_neg hc, if_neg (by omega)]
theorem stored_cells {base e size g n cap : Nat} : ∀ (vs : List Value) (o : Nat) (w : World) (cs : List Value), w.ownsRow base e size (.slice (some ⟨g, 0, none⟩) n cap) n cs →
    (w.setCells g o vs).ownsRow base e size (.slice (some ⟨g, 0, none⟩) n cap) n (lay cs o vs) ∧ w.grownBy (w.setCells g o vs) (some g)
  | [], o, w, cs, h => ⟨h, grown_refl _ _⟩
  | v :: r, o, w, cs, h => by
    have h1 := h.stored o v
    have h2 := stored_cells r (o + 1) _ _ h1.1
    refine ⟨h2.1, ?_⟩
    have h3 := h1.2
    exact ⟨h2.2.os.trans h3.os, h2.2.tape.trans h3.tape, h2.2.output.trans h3.output, Nat.le_trans h3.size h2.2.size, fun k hk hne => (h2.2.block k (Nat.lt_of_lt_of_le hk h3.size) hne).trans (h3.block k hk hne)⟩
theorem below_cells {B g : Nat} : ∀ (vs : List Value) (o : Nat) {a w : World}, Below B a w → B ≤ g → Below B a (w.setCells g o vs)
  | [], _, _, _, h, _ => h
  | v :: r, o, a, w, h, hg => below_cells r (o + 1) (h.setCell (p := ⟨g, o, none⟩) hg v) hg
namespace Kd
variable {α β : Type}
theorem cut_lay_same {sz : Nat} {cs vs : List Value} {i : Nat} (hv : vs.length = sz) (hl : (i + 1) * sz ≤ cs.length) : cut sz (lay cs (i * sz) vs) i = vs := by
  apply List.ext_getElem?
  intro j
  rw [Nat.add_mul] at hl
  by_cases hj : j < sz
  · rw [getElem?_cut hj, lay_get, if_pos (by omega), show i * sz + j - i * sz = j by omega]
  · rw [List.getElem?_eq_none (by simp [cut]; omega), List.getElem?_eq_none (by omega)]
theorem cut_lay_other {sz : Nat} {cs vs : List Value} {i k : Nat} (hv : vs.length = sz) (hk : k ≠ i) : cut sz (lay cs (i * sz) vs) k = cut sz cs k := by
  apply List.ext_getElem?
  intro j
  by_cases hj : j < sz
  · rw [getElem?_cut hj, getElem?_cut hj, lay_get, if_neg]
    rintro ⟨h1, h2, _⟩
    rw [hv] at h2
    rcases Nat.lt_or_gt_of_ne hk with h | h
    · have := Nat.mul_le_mul_right sz (show k + 1 ≤ i by omega)
      rw [Nat.add_mul] at this; omega
    · have := Nat.mul_le_mul_right sz (show i + 1 ≤ k by omega)
      rw [Nat.add_mul] at this; omega
  · rw [List.getElem?_eq_none (by simp [cut]; omega), List.getElem?_eq_none (by simp [cut]; omega)]
/-- Element i becomes x, whose cells are ds. -/
theorem OZ_put {d : Kd α} {e : Nat} {z : Nat → Zn} {y : Zn} {base : Nat} {w : World} {g n cap : Nat} {xs : List α} (h : d.OZ e z base w (.slice (some ⟨g, 0, none⟩) n cap) xs) (hE : e ∉ d.E) (hz : ∀ j, j < xs.length → (z j).hi ≤ base) (hy : y.hi ≤ base)
    {i : Nat} {x : α} {ds : List Value} (hi : i < xs.length) (hx : d.K y w x ds) :
    d.OZ e (fun j => if j = i then y else z j) base (w.setCells g (i * d.sz) ds) (.slice (some ⟨g, 0, none⟩) n cap) (xs.set i x) ∧
    ∀ E, e ∉ E → ∀ (b : Zn), b.hi ≤ base → ∀ k, b.met E w k → (w.setCells g (i * d.sz) ds).heap[k]? = w.heap[k]? := by
  obtain ⟨cs, ho, hr⟩ := h
  have hn : n = xs.length := by
    rcases ho.2 with ⟨h, _⟩ | ⟨g', cap', cur, hv, _⟩
    · cases h
    · simp only [Value.slice.injEq] at hv
      exact hv.2.1
  subst hn
  have hs := stored_cells ds (i * d.sz) w cs ho
  have hmet : ∀ E, e ∉ E → ∀ (b : Zn), b.hi ≤ base → ∀ k, b.met E w k → (w.setCells g (i * d.sz) ds).heap[k]? = w.heap[k]? := fun E hE b hb => met_own ho hE hb (by simpa [Value.ownBlock] using hs.2)
  refine ⟨⟨_, by simpa using hs.1, fun j x' hx' => ?_⟩, hmet⟩
  have hlen := d.len hx
  by_cases hji : j = i
  · subst hji
    rw [List.getElem?_set_self hi] at hx'
    injection hx' with hx'
    subst hx'
    simp only [if_true]
    rw [cut_lay_same hlen (by rw [ho.1]; exact Nat.mul_le_mul_right _ hi)]
    exact d.chg (hmet _ hE y hy) hx
  · rw [List.getElem?_set_ne (fun e => hji e.symm)] at hx'
    simp only [if_neg hji]
    rw [cut_lay_other hlen hji]
    exact d.chg (hmet _ hE _ (hz j (List.getElem?_eq_some_iff.1 hx').1)) (hr j x' hx')
theorem O_box {d : Kd α} {e n t base : Nat} {b : Zn} {w w1 : World} {v : Value} {xs : List α} (h : d.O e b base w v xs) (hE : t ∉ d.E) (hb : b.hi ≤ n) (hbase : n < base) (hn : ∃ cur, w.heap[n]? = some (.cells cur t (0, 0))) (hg : w.grownBy w1 (some n)) : d.O e b base w1 v xs := by
  obtain ⟨cs, ho, hr⟩ := h
  refine ⟨cs, ho.kept hg ?_, hr.imp (fun _ _ hk => d.chg (met_box hE hb hn hg) hk)⟩
  rcases ho.2 with ⟨rfl, _⟩ | ⟨g, cap, cur, rfl, hbg, _⟩
  · exact .inl rfl
  · exact .inr (by simp only [Value.ownBlock, ne_eq, Option.some.injEq]; omega)
/-- What a row of one's own is not hit by. -/
theorem O_met {d : Kd α} {e base : Nat} {b : Zn} {w w1 : World} {v : Value} {xs : List α} (h : d.O e b base w v xs) (hs : w.heap.size ≤ w1.heap.size) (hm : ∀ E, E ⊆ e :: d.E → ∀ (y : Zn), y.hi ≤ base → ∀ k, y.met E w k → w1.heap[k]? = w.heap[k]?) (hb : b.hi ≤ base) : d.O e b base w1 v xs := by
  obtain ⟨cs, ho, hr⟩ := h
  refine ⟨cs, ⟨ho.1, ?_⟩, hr.imp (fun _ _ hk => d.chg (hm _ (fun _ h => List.mem_cons_of_mem _ h) b hb) hk)⟩
  rcases ho.2 with h2 | ⟨g, cap, cur, hv, hg, hh, r⟩
  · exact .inl h2
  · refine .inr ⟨g, cap, cur, hv, hg, (hm [e] (fun _ h => by simp at h; simp [h]) ⟨0, base⟩ (Nat.le_refl _) g ⟨e, by simp, Nat.zero_le _, (Array.getElem?_eq_some_iff.1 hh).1, .inr ⟨cur, hh⟩⟩).trans hh, r⟩
end Kd
end Go.Proofs.Ytagihamgaidikaa
