/- The ground for the walks: kinds of data and how they are read in memory, rows of a call's own. -/
import Derived.Below
import Derived.OwnWalk
import Derived.WalkKit
import Derived.Laws.AppendOwn
import Derived.Laws.OwnMore
import Derived.Laws.MakeOwn
import Derived.Maps.AppendAt
import Derived.KernelRfl
set_option linter.unusedVariables false
set_option linter.unusedSimpArgs false
namespace Go.Proofs.Ytagihamgaidikaa
open Go.RowKit

/-! ### Numbers of a kind -/
def Rg : IntKind → Int → Prop
  | .i64, x => -9223372036854775808 ≤ x ∧ x ≤ 9223372036854775807
  | .u8, x => 0 ≤ x ∧ x ≤ 255
  | .u16, x => 0 ≤ x ∧ x ≤ 65535
  | _, _ => True

/-! ### Lists as cells -/
/-- cs holds the elements of xs, sz cells each, each as R tells. -/
def Reps {α : Type} (R : α → List Value → Prop) (sz : Nat) : List α → List Value → Prop
  | [], cs => cs = []
  | x :: xs, cs => ∃ c r, cs = c ++ r ∧ c.length = sz ∧ R x c ∧ Reps R sz xs r
theorem Reps.length {α : Type} {R : α → List Value → Prop} {sz : Nat} : ∀ {xs : List α} {cs : List Value}, Reps R sz xs cs → cs.length = xs.length * sz
  | [], cs, h => by simp [Reps] at h; simp [h]
  | x :: xs, cs, h => by
    obtain ⟨c, r, rfl, hc, _, hr⟩ := h
    rw [List.length_append, hc, hr.length, List.length_cons, Nat.add_mul]; omega
theorem Reps.append {α : Type} {R : α → List Value → Prop} {sz : Nat} : ∀ {xs ys : List α} {cs ds : List Value}, Reps R sz xs cs → Reps R sz ys ds → Reps R sz (xs ++ ys) (cs ++ ds)
  | [], ys, cs, ds, h, k => by simp [Reps] at h; subst h; simpa using k
  | x :: xs, ys, cs, ds, h, k => by
    obtain ⟨c, r, rfl, hc, hx, hr⟩ := h
    exact ⟨c, r ++ ds, by rw [List.append_assoc], hc, hx, hr.append k⟩
theorem Reps.imp {α : Type} {R R' : α → List Value → Prop} {sz : Nat} (hi : ∀ x c, R x c → R' x c) : ∀ {xs : List α} {cs : List Value}, Reps R sz xs cs → Reps R' sz xs cs
  | [], cs, h => h
  | x :: xs, cs, h => by
    obtain ⟨c, r, e, hc, hx, hr⟩ := h
    exact ⟨c, r, e, hc, hi _ _ hx, hr.imp hi⟩
theorem Reps.one {α : Type} {R : α → List Value → Prop} {sz : Nat} {x : α} {c : List Value} (hc : c.length = sz) (h : R x c) : Reps R sz [x] c := ⟨c, [], by simp, hc, h, rfl⟩
theorem Reps.get {α : Type} {R : α → List Value → Prop} {sz : Nat} : ∀ {xs : List α} {cs : List Value}, Reps R sz xs cs → ∀ i x, xs[i]? = some x → R x ((cs.drop (i * sz)).take sz)
  | [], cs, h, i, x, hx => by simp at hx
  | y :: xs, cs, h, i, x, hx => by
    obtain ⟨c, r, rfl, hc, hy, hr⟩ := h
    cases i with
    | zero =>
      simp at hx; subst hx
      have : (c ++ r).take sz = c := by rw [← hc, List.take_left]
      simpa [this] using hy
    | succ i =>
      have h1 := hr.get i x (by simpa using hx)
      have : (c ++ r).drop ((i + 1) * sz) = r.drop (i * sz) := by
        rw [Nat.add_mul, Nat.one_mul, Nat.add_comm, ← List.drop_drop, ← hc, List.drop_left]
      rw [this]; exact h1
theorem Reps.of_get {α : Type} {R : α → List Value → Prop} {sz : Nat} : ∀ {xs : List α} {cs : List Value}, cs.length = xs.length * sz → (∀ i x, xs[i]? = some x → R x ((cs.drop (i * sz)).take sz)) → Reps R sz xs cs
  | [], cs, hl, h => by simpa [Reps] using hl
  | y :: xs, cs, hl, h => by
    refine ⟨cs.take sz, cs.drop sz, (List.take_append_drop sz cs).symm, ?_, by simpa using h 0 y rfl, Reps.of_get ?_ ?_⟩
    · rw [List.length_take, hl, List.length_cons, Nat.add_mul]; omega
    · rw [List.length_drop, hl, List.length_cons, Nat.add_mul]; omega
    · intro i x hx
      have := h (i + 1) x (by simpa using hx)
      rwa [Nat.add_mul, Nat.one_mul, Nat.add_comm, ← List.drop_drop] at this

/-! ### Kinds: what a value's cells say. -/
/-- Where memory that is read may lie: from lo on; below hi blocks may be of any type; what lies beyond is typed, and may be written. -/
structure Zn where
  lo : Nat
  hi : Nat
def Zn.le (z y : Zn) : Prop := y.lo ≤ z.lo ∧ z.hi ≤ y.hi
/-- A block of elements of type e, that may be read by zone z. -/
def Zn.ok (z : Zn) (e : Nat) (w : World) (g : Nat) : Prop := z.lo ≤ g ∧ g < w.heap.size ∧ (g < z.hi ∨ ∃ cells, w.heap[g]? = some (.cells cells e (0, 0)))
/-- Block k may be met by a reading that meets the types E. -/
def Zn.met (z : Zn) (E : List Nat) (w : World) (k : Nat) : Prop := ∃ t, t ∈ E ∧ z.ok t w k
theorem Zn.ok_mono {z y : Zn} {e : Nat} {w : World} {g : Nat} (h : z.le y) (k : z.ok e w g) : y.ok e w g := ⟨Nat.le_trans h.1 k.1, k.2.1, k.2.2.imp (fun q => Nat.lt_of_lt_of_le q h.2) id⟩
theorem Zn.ok_same {z : Zn} {e : Nat} {w w1 : World} {g : Nat} (h : w1.heap[g]? = w.heap[g]?) (k : z.ok e w g) : z.ok e w1 g := by
  refine ⟨k.1, ?_, k.2.2.imp id fun ⟨cells, q⟩ => ⟨cells, h.trans q⟩⟩
  have h1 : (w.heap[g]?).isSome := by simp [k.2.1]
  rw [← h] at h1
  simpa using h1
structure Kd (α : Type) where
  sz : Nat
  E : List Nat
  K : Zn → World → α → List Value → Prop
  len : ∀ {b w x cs}, K b w x cs → cs.length = sz
  one : ∀ {b w x cs}, K b w x cs → ∀ u ∈ cs, u.oneCell' = true
  chg : ∀ {b : Zn} {w w1 : World} {x cs}, (∀ k, b.met E w k → w1.heap[k]? = w.heap[k]?) → K b w x cs → K b w1 x cs
  mono : ∀ {b b' w x cs}, b.le b' → K b w x cs → K b' w x cs

/-- The elements of a slice at A (elements of type e). -/
def Kd.C {α : Type} (d : Kd α) (e : Nat) (b : Zn) (w : World) (A : Option Addr) (xs : List α) : Prop :=
  xs.length ≤ 9223372036854775807 ∧ ∀ i x, xs[i]? = some x → ∃ g o cs, A = some ⟨g, o, none⟩ ∧ b.ok e w g ∧ d.K b w x cs ∧ ∀ j u, cs[j]? = some u → w.cell? ⟨g, o + (i * d.sz + j), none⟩ = some u

theorem add_block (a : Addr) (n : Nat) : (a.add n).block = a.block := by unfold Addr.add; split <;> rfl
theorem add_plain (g o j : Nat) : (⟨g, o, none⟩ : Addr).add j = ⟨g, o + j, none⟩ := by unfold Addr.add; split <;> simp_all

namespace Kd
variable {α β : Type}
theorem C_chg {d : Kd α} {e : Nat} {b : Zn} {w w1 : World} {A : Option Addr} {xs : List α} (h : d.C e b w A xs)
    (hc : ∀ k, b.met (e :: d.E) w k → w1.heap[k]? = w.heap[k]?) : d.C e b w1 A xs := by
  refine ⟨h.1, fun i x hx => ?_⟩
  obtain ⟨g, o, cs, hA, hb, hk, hcell⟩ := h.2 i x hx
  have hsame : w1.heap[g]? = w.heap[g]? := hc _ ⟨e, List.mem_cons_self, hb⟩
  refine ⟨g, o, cs, hA, Zn.ok_same hsame hb, d.chg (fun k ⟨t, ht, h⟩ => hc k ⟨t, List.mem_cons_of_mem _ ht, h⟩) hk, fun j u hu => ?_⟩
  rw [World.cell?_of_block (w := w) (a := ⟨g, _, none⟩) hsame]
  exact hcell j u hu
theorem C_below {d : Kd α} {e : Nat} {b : Zn} {w w1 : World} {A : Option Addr} {xs : List α} (h : d.C e b w A xs) (hb : Below w.heap.size w w1) : d.C e b w1 A xs := C_chg h (fun k ⟨_, _, q⟩ => hb.block k q.2.1)
theorem K_below {d : Kd α} {b : Zn} {w w1 : World} {x : α} {cs : List Value} (h : d.K b w x cs) (hb : Below w.heap.size w w1) : d.K b w1 x cs := d.chg (fun k ⟨_, _, q⟩ => hb.block k q.2.1) h
theorem C_mono {d : Kd α} {e : Nat} {b b' : Zn} {w : World} {A : Option Addr} {xs : List α} (h : d.C e b w A xs) (hb : b.le b') : d.C e b' w A xs :=
  ⟨h.1, fun i x hx => by
    obtain ⟨g, o, cs, hA, hb', hk, hcell⟩ := h.2 i x hx
    exact ⟨g, o, cs, hA, Zn.ok_mono hb hb', d.mono hb hk, hcell⟩⟩
theorem C_nil (d : Kd α) (e : Nat) (b : Zn) (w : World) (A : Option Addr) : d.C e b w A [] := ⟨by simp, fun i x hx => by simp at hx⟩
theorem C_tail {d : Kd α} {e : Nat} {b : Zn} {w : World} {g o : Nat} {xs : List α} (h : d.C e b w (some ⟨g, o, none⟩) xs) (i : Nat) : d.C e b w (some ⟨g, o + i * d.sz, none⟩) (xs.drop i) := by
  refine ⟨by rw [List.length_drop]; have := h.1; omega, fun j x hx => ?_⟩
  obtain ⟨g', o', cs, hA, hb, hk, hcell⟩ := h.2 (i + j) x (by simpa using hx)
  simp only [Option.some.injEq, Addr.mk.injEq, and_true] at hA
  obtain ⟨rfl, rfl⟩ := hA
  refine ⟨_, _, cs, rfl, hb, hk, fun q u hu => ?_⟩
  have := hcell q u hu
  rw [Nat.add_mul] at this
  rwa [show o + i * d.sz + (j * d.sz + q) = o + (i * d.sz + j * d.sz + q) by omega]
theorem C_take {d : Kd α} {e : Nat} {b : Zn} {w : World} {A : Option Addr} {xs : List α} (h : d.C e b w A xs) (i : Nat) : d.C e b w A (xs.take i) :=
  ⟨by rw [List.length_take]; have := h.1; omega, fun j x hx => h.2 j x (by rw [List.getElem?_take] at hx; split at hx; exact hx; cases hx)⟩
/-- Element i, its cells. -/
theorem C_at {d : Kd α} {e : Nat} {b : Zn} {w : World} {A : Option Addr} {xs : List α} (h : d.C e b w A xs) {i : Nat} (z : α) (hi : i < xs.length) :
    ∃ g o cs, A = some ⟨g, o, none⟩ ∧ g < w.heap.size ∧ d.K b w (xs.getD i z) cs ∧ ∀ j u, cs[j]? = some u → w.cell? ⟨g, o + (i * d.sz + j), none⟩ = some u := by
  obtain ⟨g, o, cs, hA, hl, hk, hc⟩ := h.2 i _ (List.getElem?_eq_getElem hi)
  refine ⟨g, o, cs, hA, hl.2.1, ?_, hc⟩
  rw [show xs.getD i z = xs[i] by simp [List.getD_eq_getElem?_getD, hi]]; exact hk

/-- A slice as one cell. -/
def sl (e : Nat) (d : Kd α) : Kd (List α) where
  sz := 1
  E := e :: d.E
  K := fun b w xs cs => ∃ A c, cs = [.slice A xs.length c] ∧ xs.length ≤ c ∧ c ≤ maxLen ∧ d.C e b w A xs
  len := by rintro b w x cs ⟨A, c, rfl, _⟩; rfl
  one := by
    rintro b w x cs ⟨A, c, rfl, _⟩ u hu
    rw [List.mem_singleton.1 hu]; rfl
  chg := by
    rintro b w w1 x cs hc ⟨A, c, rfl, hl, hm, h⟩
    exact ⟨A, c, rfl, hl, hm, C_chg h hc⟩
  mono := by
    rintro b b' w x cs hb ⟨A, c, rfl, hl, hm, h⟩
    exact ⟨A, c, rfl, hl, hm, C_mono h hb⟩
def scalar (enc : α → Value) (h1 : ∀ x, (enc x).oneCell' = true) (ok : α → Prop) : Kd α where
  sz := 1
  E := []
  K := fun _ _ x cs => cs = [enc x] ∧ ok x
  len := by rintro b w x cs ⟨rfl, _⟩; rfl
  one := by
    rintro b w x cs ⟨rfl, _⟩ u hu
    rw [List.mem_singleton.1 hu]; exact h1 _
  chg := fun _ h => h
  mono := fun _ h => h
def int (k : IntKind) : Kd Int := scalar (Value.int k) (fun _ => rfl) (Rg k)
def bool : Kd Bool := scalar Value.bool (fun _ => rfl) (fun _ => True)
def pr (a : Kd α) (c : Kd β) : Kd (α × β) where
  sz := a.sz + c.sz
  E := a.E ++ c.E
  K := fun b w x cs => ∃ c0 c1, cs = c0 ++ c1 ∧ a.K b w x.1 c0 ∧ c.K b w x.2 c1
  len := by
    rintro b w x cs ⟨c0, c1, rfl, h0, h1⟩
    rw [List.length_append, a.len h0, c.len h1]
  one := by
    rintro b w x cs ⟨c0, c1, rfl, h0, h1⟩ u hu
    rcases List.mem_append.1 hu with hu | hu
    · exact a.one h0 u hu
    · exact c.one h1 u hu
  chg := by
    rintro b w w1 x cs hc ⟨c0, c1, rfl, h0, h1⟩
    exact ⟨c0, c1, rfl, a.chg (fun k ⟨t, ht, h⟩ => hc k ⟨t, List.mem_append_left _ ht, h⟩) h0, c.chg (fun k ⟨t, ht, h⟩ => hc k ⟨t, List.mem_append_right _ ht, h⟩) h1⟩
  mono := by
    rintro b b' w x cs hb ⟨c0, c1, rfl, h0, h1⟩
    exact ⟨c0, c1, rfl, a.mono hb h0, c.mono hb h1⟩
def iso (d : Kd α) (f : β → α) : Kd β where
  sz := d.sz
  E := d.E
  K := fun b w x cs => d.K b w (f x) cs
  len := d.len
  one := d.one
  chg := d.chg
  mono := d.mono
end Kd
end Go.Proofs.Ytagihamgaidikaa
