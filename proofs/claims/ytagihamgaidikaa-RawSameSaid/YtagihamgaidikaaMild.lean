/- Numbers and bools of new blocks turned, all else kept: what a reading says then. -/
import Derived.Test.YtagihamgaidikaaRtwin23
set_option linter.unusedVariables false
set_option linter.unusedSimpArgs false
namespace Go.Proofs.Ytagihamgaidikaa
open Go.RowKit
/-- The same, or a number for a number of its kind, or a bool for a bool. -/
def Like (u v : Value) : Prop := u = v ∨ (∃ k n m, u = .int k n ∧ v = .int k m) ∨ ∃ p q, u = .bool p ∧ v = .bool q
theorem Like.int {k : IntKind} {n : Int} {v : Value} (h : Like (.int k n) v) : ∃ m, v = .int k m := by
  rcases h with rfl | ⟨k', n', m, h, rfl⟩ | ⟨p, q, h, _⟩
  · exact ⟨n, rfl⟩
  · cases h; exact ⟨m, rfl⟩
  · cases h
theorem Like.bool {p : Bool} {v : Value} (h : Like (.bool p) v) : ∃ q, v = .bool q := by
  rcases h with rfl | ⟨k', n', m, h, _⟩ | ⟨p', q, h, rfl⟩
  · exact ⟨p, rfl⟩
  · cases h
  · exact ⟨q, rfl⟩
theorem Like.slice {A : Option Addr} {n c : Nat} {v : Value} (h : Like (.slice A n c) v) : v = .slice A n c := by
  rcases h with rfl | ⟨k', n', m, h, _⟩ | ⟨p', q, h, _⟩
  · rfl
  · cases h
  · cases h
def Typed (w : World) (g : Nat) : Prop := ∃ cur e, w.heap[g]? = some (.cells cur e (0, 0))
/-- wr is WS but for blocks of W1 from h on, whose cells are alike. -/
structure Mild (h : Nat) (W1 WS wr : World) : Prop where
  low : Below h WS wr
  high : ∀ k, W1.heap.size ≤ k → wr.heap[k]? = WS.heap[k]?
  blk : ∀ g, h ≤ g → ∀ cur e, W1.heap[g]? = some (.cells cur e (0, 0)) → ∃ cur', wr.heap[g]? = some (.cells cur' e (0, 0)) ∧ ∀ (j : Nat) (u : Value), cur[j]? = some u → ∃ v, cur'[j]? = some v ∧ Like u v
theorem Mild.start {h : Nat} {W1 WS : World} (hB : Below W1.heap.size W1 WS) : Mild h W1 WS WS where
  low := Below.refl _ _
  high _ _ := rfl
  blk g _ cur e hg := ⟨cur, (hB.block _ (Array.getElem?_eq_some_iff.1 hg).1).trans hg, fun j u hu => ⟨u, hu, .inl rfl⟩⟩
theorem Mild.cell {h : Nat} {W1 WS wr : World} (H : Mild h W1 WS wr) {g j : Nat} {u : Value} (hg : h ≤ g) (ht : Typed W1 g) (hc : W1.cell? ⟨g, j, none⟩ = some u) :
    (∃ v, wr.cell? ⟨g, j, none⟩ = some v ∧ Like u v) ∧ wr.frozen? ⟨g, j, none⟩ = false := by
  obtain ⟨cur, e, hh⟩ := ht
  obtain ⟨cur', h', ha⟩ := H.blk g hg cur e hh
  rw [cell_of_row _ _ _ _ _ _ hh] at hc
  obtain ⟨v, hv, hl⟩ := ha j u hc
  exact ⟨⟨v, by rw [cell_of_row _ _ _ _ _ _ h']; exact hv, hl⟩, frozen_of_row wr g j cur' e h'⟩
theorem Mild.set {h : Nat} {W1 WS wr : World} (H : Mild h W1 WS wr) {g j : Nat} {u v : Value} (hg : h ≤ g) (ht : Typed W1 g) (hc : W1.cell? ⟨g, j, none⟩ = some u) (hl : Like u v) :
    Mild h W1 WS (wr.setCell ⟨g, j, none⟩ v) where
  low := H.low.setCell (p := ⟨g, j, none⟩) hg v
  high k hk := by
    obtain ⟨cur, e, hh⟩ := ht
    have := (Array.getElem?_eq_some_iff.1 hh).1
    exact (Below.heap_setCell wr ⟨g, j, none⟩ v k (by dsimp only; omega)).trans (H.high k hk)
  blk g' hg' cur e hh := by
    obtain ⟨cur', h', ha⟩ := H.blk g' hg' cur e hh
    by_cases hgg : g' = g
    · subst hgg
      refine ⟨_, heap_setCell_same wr g' j cur' e v h', fun j' u' hu' => ?_⟩
      by_cases hj : j' = j
      · subst hj
        rw [cell_of_row _ _ _ _ _ _ hh] at hc
        rw [hc] at hu'
        cases hu'
        obtain ⟨v0, hv0, _⟩ := ha j' u hc
        exact ⟨v, by simp [(Array.getElem?_eq_some_iff.1 hv0).1], hl⟩
      · obtain ⟨v0, hv0, hl0⟩ := ha j' u' hu'
        exact ⟨v0, by rw [Array.getElem?_setIfInBounds_ne (fun h => hj h.symm)]; exact hv0, hl0⟩
    · exact ⟨cur', (Below.heap_setCell wr ⟨g, j, none⟩ v g' hgg).trans h', ha⟩
theorem Mild.drew {h : Nat} {W1 WS wr : World} (H : Mild h W1 WS wr) : Mild h W1 WS wr.drew := ⟨H.low.drew, H.high, H.blk⟩
theorem Mild.box {h : Nat} {W1 WS wr : World} (H : Mild h W1 WS wr) {k : Nat} (hk : W1.heap.size ≤ k) : (∀ o, wr.cell? ⟨k, o, none⟩ = WS.cell? ⟨k, o, none⟩) := (same_cell (H.high k hk)).1
/-- Element i of a slice of the zone of what is new: where it lies; its cells. -/
theorem Kd.C_new {α : Type} {d : Kd α} {e h : Nat} {w : World} {A : Option Addr} {xs : List α} (hC : d.C e ⟨h, 0⟩ w A xs) {i : Nat} (z : α) (hi : i < xs.length) :
    ∃ g o cs, A = some ⟨g, o, none⟩ ∧ h ≤ g ∧ Typed w g ∧ d.K ⟨h, 0⟩ w (xs.getD i z) cs ∧ ∀ j u, cs[j]? = some u → w.cell? ⟨g, o + (i * d.sz + j), none⟩ = some u := by
  obtain ⟨g, o, cs, hA, hl, hk, hc⟩ := hC.2 i _ (List.getElem?_eq_getElem hi)
  refine ⟨g, o, cs, hA, hl.1, ?_, ?_, hc⟩
  · rcases hl.2.2 with h0 | ⟨cells, h0⟩
    · exact absurd h0 (Nat.not_lt_zero _)
    · exact ⟨cells, e, h0⟩
  · rw [show xs.getD i z = xs[i] by simp [List.getD_eq_getElem?_getD, hi]]; exact hk
theorem Kd.C_new_int {k : IntKind} {e h : Nat} {w : World} {A : Option Addr} {xs : List Int} (hC : (Kd.int k).C e ⟨h, 0⟩ w A xs) {i : Nat} (hi : i < xs.length) :
    ∃ g o, A = some ⟨g, o, none⟩ ∧ h ≤ g ∧ Typed w g ∧ w.cell? ⟨g, o + i, none⟩ = some (.int k (xs.getD i 0)) := by
  obtain ⟨g, o, cs, hA, hg, ht, ⟨rfl, _⟩, hc⟩ := Kd.C_new hC 0 hi
  have := hc 0 _ rfl
  rw [show i * (Kd.int k).sz + 0 = i by show i * 1 + 0 = i; omega] at this
  exact ⟨g, o, hA, hg, ht, this⟩
theorem Kd.C_new_bool {e h : Nat} {w : World} {A : Option Addr} {xs : List Bool} (hC : Kd.bool.C e ⟨h, 0⟩ w A xs) {i : Nat} (hi : i < xs.length) :
    ∃ g o, A = some ⟨g, o, none⟩ ∧ h ≤ g ∧ Typed w g ∧ w.cell? ⟨g, o + i, none⟩ = some (.bool (xs.getD i false)) := by
  obtain ⟨g, o, cs, hA, hg, ht, ⟨rfl, _⟩, hc⟩ := Kd.C_new hC false hi
  have := hc 0 _ rfl
  rw [show i * Kd.bool.sz + 0 = i by show i * 1 + 0 = i; omega] at this
  exact ⟨g, o, hA, hg, ht, this⟩
theorem Kd.C_new_sl {α : Type} {d : Kd α} {e' e h : Nat} {w : World} {A : Option Addr} {xs : List (List α)} (hC : (Kd.sl e' d).C e ⟨h, 0⟩ w A xs) {i : Nat} (hi : i < xs.length) :
    ∃ g o A' c', A = some ⟨g, o, none⟩ ∧ h ≤ g ∧ Typed w g ∧ w.cell? ⟨g, o + i, none⟩ = some (.slice A' (xs.getD i []).length c') ∧ (xs.getD i []).length ≤ c' ∧ c' ≤ maxLen ∧ d.C e' ⟨h, 0⟩ w A' (xs.getD i []) := by
  obtain ⟨g, o, cs, hA, hg, ht, ⟨A', c', rfl, hl, hm, hr⟩, hc⟩ := Kd.C_new hC [] hi
  have := hc 0 _ rfl
  rw [show i * (Kd.sl e' d).sz + 0 = i by show i * 1 + 0 = i; omega] at this
  exact ⟨g, o, A', c', hA, hg, ht, this, hl, hm, hr⟩
theorem getD_len {α : Type} {xs : List (List α)} {n : Nat} (h : ∀ i, i < xs.length → (xs.getD i []).length ≤ n) (i : Nat) : (xs.getD i []).length ≤ n := by
  by_cases hi : i < xs.length
  · exact h i hi
  · simp [List.getD_eq_getElem?_getD, List.getElem?_eq_none (Nat.le_of_not_lt hi)]
theorem Chn.Tiny.small {x : Chn} (h : x.Tiny) : x.Small where
  g := Nat.le_trans h.g (by omega)
  s := Nat.le_trans h.s (by omega)
  ss i := Nat.le_trans (getD_len h.ss i) (by omega)
  t := Nat.le_trans h.t (by omega)
  tt i := Nat.le_trans (getD_len h.tt i) (by omega)
  n := Nat.le_trans h.n (by omega)
  nn i := Nat.le_trans (getD_len h.nn i) (by omega)
  nc i j := by
    by_cases hi : i < x.tns.length
    · by_cases hj : j < (x.tns.getD i []).length
      · exact Nat.le_trans (h.nc i hi j hj) (by omega)
      · rw [List.getD_eq_getElem?_getD (l := x.tns.getD i []), List.getElem?_eq_none (Nat.le_of_not_lt hj)]
        exact Nat.zero_le _
    · rw [List.getD_eq_getElem?_getD (l := x.tns), List.getElem?_eq_none (Nat.le_of_not_lt hi)]
      exact Nat.zero_le _
  l := Nat.le_trans h.l (by omega)
theorem Frm.Tiny.small {x : Frm} (h : x.Tiny) : x.Small where
  c := Nat.le_trans h.c (by omega)
  cs i hi := (h.cs i hi).small
  b := Nat.le_trans h.b (by omega)
  bs i := Nat.le_trans (getD_len h.bs i) (by omega)
  f := Nat.le_trans h.f (by omega)
end Go.Proofs.Ytagihamgaidikaa
