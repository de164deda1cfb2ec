/- Rows of a call's own: appended to, read, stored into. -/
import Derived.Test.YtagihamgaidikaaData
import Derived.Tactics
set_option linter.unusedVariables false
set_option linter.unusedSimpArgs false
namespace Go.Proofs.Ytagihamgaidikaa
open Go.RowKit

namespace Kd
variable {α : Type}
/-- All cells of a slice's elements, in one list. -/
theorem C_cells {d : Kd α} {e : Nat} {b : Zn} {w : World} : ∀ {xs : List α} {A : Option Addr}, d.C e b w A xs → ∃ cs, Reps (d.K b w) d.sz xs cs ∧ (∀ u ∈ cs, u.oneCell' = true) ∧ ∀ ad, A = some ad → ∀ j u, cs[j]? = some u → w.cell? (ad.add j) = some u
  | [], A, h => ⟨[], rfl, by simp, fun ad _ j u hu => by simp at hu⟩
  | x :: xs, A, h => by
    obtain ⟨g, o, cs, rfl, hb, hk, hc⟩ := h.2 0 x rfl
    have ht := C_tail h 1
    simp only [Nat.one_mul, List.drop_succ_cons, List.drop_zero] at ht
    obtain ⟨r, hr, h1, hcell⟩ := C_cells ht
    refine ⟨cs ++ r, ⟨cs, r, rfl, d.len hk, hk, hr⟩, fun u hu => ?_, fun ad had j u hu => ?_⟩
    · rcases List.mem_append.1 hu with hu | hu
      · exact d.one hk u hu
      · exact h1 u hu
    · injection had with had
      subst had
      rw [add_plain]
      rcases Nat.lt_or_ge j cs.length with hj | hj
      · rw [List.getElem?_append_left hj] at hu
        have := hc j u hu
        simpa using this
      · rw [List.getElem?_append_right hj] at hu
        have := hcell _ rfl _ _ hu
        rw [add_plain] at this
        have hl := d.len hk
        rwa [show o + d.sz + (j - cs.length) = o + j by omega] at this

/-- A row of the call's own, from block base on; what its elements lead to is read. -/
def O (d : Kd α) (e : Nat) (b : Zn) (base : Nat) (w : World) (v : Value) (xs : List α) : Prop := ∃ cs, w.ownsRow base e d.sz v xs.length cs ∧ Reps (d.K b w) d.sz xs cs

theorem O_nil (d : Kd α) (e : Nat) (b : Zn) (base : Nat) (w : World) : d.O e b base w (.slice none 0 0) [] := ⟨[], World.ownsRow_nil w base e d.sz, rfl⟩
theorem O_empty (d : Kd α) (e : Nat) (b : Zn) (base : Nat) (w : World) (hb : base ≤ w.heap.size) : d.O e b base (w.alloc (.cells #[] e)) (.slice (some ⟨w.heap.size, 0, none⟩) 0 0) [] :=
  ⟨[], World.ownsRow_made w #[] 0 hb (by simp [maxLen]) (by simp), rfl⟩
/-- What is met by a reading is no row of one's own: it lies ahead of base, or is of another type. -/
theorem met_own {E : List Nat} {e : Nat} {b : Zn} {base sz n : Nat} {w w1 : World} {v : Value} {cs : List Value} (ho : w.ownsRow base e sz v n cs) (hE : e ∉ E) (hb : b.hi ≤ base) (hg : w.grownBy w1 v.ownBlock) :
    ∀ k, b.met E w k → w1.heap[k]? = w.heap[k]? := by
  rintro k ⟨t, ht, _, hk, hz⟩
  refine hg.block k hk (fun he => ?_)
  rcases ho.2 with ⟨rfl, _⟩ | ⟨g, cap, cur, rfl, hbg, hh, _⟩
  · simp [Value.ownBlock] at he
  · simp only [Value.ownBlock, Option.some.injEq] at he
    subst he
    rcases hz with hz | ⟨cells, hz⟩
    · omega
    · rw [hh] at hz
      simp only [Option.some.injEq, Obj.cells.injEq] at hz
      exact hE (hz.2.1 ▸ ht)
theorem K_own {d : Kd α} {e : Nat} {b : Zn} {base sz n : Nat} {w w1 : World} {v : Value} {cs : List Value} (ho : w.ownsRow base e sz v n cs) (hE : e ∉ d.E) (hb : b.hi ≤ base) (hg : w.grownBy w1 v.ownBlock) {x : α} {c : List Value} (hk : d.K b w x c) : d.K b w1 x c :=
  d.chg (met_own ho hE hb hg) hk
theorem O_below {d : Kd α} {e : Nat} {b : Zn} {base : Nat} {w w1 : World} {v : Value} {xs : List α} (h : d.O e b base w v xs) (hb : Below w.heap.size w w1) : d.O e b base w1 v xs := by
  obtain ⟨cs, ho, hr⟩ := h
  exact ⟨cs, ho.kept (row := none) ⟨hb.os, hb.tape, hb.output, hb.size, fun k hk _ => hb.block k hk⟩ (by cases v.ownBlock <;> simp), hr.imp (fun _ _ hk => K_below hk hb)⟩
theorem O_mono {d : Kd α} {e : Nat} {b b' : Zn} {base base' : Nat} {w : World} {v : Value} {xs : List α} (h : d.O e b base w v xs) (hb : b.le b') (hs : base' ≤ base) : d.O e b' base' w v xs := by
  obtain ⟨cs, ⟨h1, h2⟩, hr⟩ := h
  refine ⟨cs, ⟨h1, ?_⟩, hr.imp (fun _ _ hk => d.mono hb hk)⟩
  rcases h2 with h2 | ⟨g, cap, cur, hv, hg, r⟩
  · exact .inl h2
  · exact .inr ⟨g, cap, cur, hv, Nat.le_trans hs hg, r⟩
/-- A row of one's own is read. -/
theorem O_C {d : Kd α} {e : Nat} {b y : Zn} {base : Nat} {w : World} {v : Value} {xs : List α} (h : d.O e b base w v xs) (hz : 0 < d.sz) (hb : b.le y) (hlo : y.lo ≤ base) : ∃ A c, v = .slice A xs.length c ∧ xs.length ≤ c ∧ c ≤ maxLen ∧ d.C e y w A xs := by
  obtain ⟨cs, ho, hr⟩ := h
  rcases ho.2 with ⟨rfl, h0⟩ | ⟨g, cap, cur, rfl, hg, hh, hn, hm, hcs, htake⟩
  · have : xs = [] := List.eq_nil_of_length_eq_zero h0
    subst this
    exact ⟨none, 0, rfl, by simp, by simp [maxLen], C_nil ..⟩
  · refine ⟨_, cap, rfl, hn, hm, by simp only [maxLen] at hm; omega, fun i x hx => ⟨g, 0, _, rfl, ⟨Nat.le_trans hlo hg, (Array.getElem?_eq_some_iff.1 hh).1, .inr ⟨cur, hh⟩⟩, d.mono hb (hr.get i x hx), fun j u hu => ?_⟩⟩
    rw [List.getElem?_take] at hu
    split at hu
    · rename_i hj
      rw [List.getElem?_drop] at hu
      have := ho.cells (g := g) rfl (i * d.sz + j) u hu
      rw [add_plain] at this
      simpa using this
    · cases hu
theorem O_slice {d : Kd α} {e : Nat} {b : Zn} {base : Nat} {w : World} {v : Value} {xs : List α} (h : d.O e b base w v xs) : ∃ A c, v = .slice A xs.length c ∧ xs.length ≤ c ∧ c ≤ maxLen := by
  obtain ⟨cs, ho, hr⟩ := h
  rcases ho.2 with ⟨rfl, h0⟩ | ⟨g, cap, cur, rfl, hg, hh, hn, hm, hcs, htake⟩
  · exact ⟨none, 0, by rw [h0], by omega, by simp [maxLen]⟩
  · exact ⟨_, cap, rfl, hn, hm⟩
/-- A row of numbers (of bools): where it lies, it may be read in any zone that goes on from there. -/
theorem O_flat {enc : α → Value} {h1 : ∀ x, (enc x).oneCell' = true} {ok : α → Prop} {e : Nat} {b : Zn} {base : Nat} {w : World} {v : Value} {xs : List α} (h : (scalar enc h1 ok).O e b base w v xs) (y : Zn) (hy : y.lo ≤ base) :
    ∃ A c, v = .slice A xs.length c ∧ xs.length ≤ c ∧ c ≤ maxLen ∧ (scalar enc h1 ok).C e y w A xs :=
  O_C (b := y) (show (scalar enc h1 ok).O e y base w v xs from h) Nat.zero_lt_one ⟨Nat.le_refl _, Nat.le_refl _⟩ hy
end Kd

section
variable {α : Type} {P : Program} {ops : Array Oper} {rest : List Oper} {o : Oper} {a : Act} {Q : Exit → Act → World → Prop}
/-- append(s, x...): s a row of the call's own, x a slice that is read. -/
theorem append_row (d : Kd α) {W : World} (e : Nat) (b : Zn) (base : Nat) (hgd : o.guard = none) (s x : Operand) (t : TypeId) (z : Value) (sz bytes : Nat)
    (ho : o.op = .call { callee := .builtin .append, args := #[s, x], argTypes := #[t, t] })
    (ht : P.underlying t = some (.slice e)) (hinfo : (P.info? e).map (fun i => (i.zero, i.size, i.bytes)) = some (some z, sz, bytes)) (hsz : d.sz = sz) (hz : z.cells.size = sz) (hb0 : 0 < bytes) (hs0 : 0 < sz) (hE : e ∉ d.E) (hbb : b.hi ≤ base)
    (v : Value) (ys xs : List α) (A : Option Addr) (c : Nat) (hs : a.eval s = v) (hx : a.eval x = .slice A xs.length c)
    (HO : d.O e b base W v ys) (HC : d.C e b W A xs) (hbase : base ≤ W.heap.size) (hl : (ys.length + xs.length) * bytes ≤ 140737488355328)
    (h : ∀ v1 w1, d.O e b base w1 v1 (ys ++ xs) → W.grownBy w1 v.ownBlock → (v1.ownBlock = v.ownBlock ∨ v1.ownBlock = some W.heap.size) → wpList P ops Q rest (a.put o.dst v1) w1) :
    wpList P ops Q (o :: rest) a W := by
  obtain ⟨cs, hown, hreps⟩ := HO
  obtain ⟨news, hrn, h1, hcell⟩ := Kd.C_cells HC
  obtain ⟨i0, hi, hzz⟩ := Option.map_eq_some_iff.1 hinfo
  simp only [Prod.mk.injEq] at hzz
  obtain ⟨hz0, hz1, hz2⟩ := hzz
  have hlen : ys.length + xs.length ≤ 140737488355328 := Nat.le_trans (Nat.le_mul_of_pos_right _ hb0) hl
  rcases A with _ | ad
  · have hx0 : xs = [] := by
      cases xs with
      | nil => rfl
      | cons y r => obtain ⟨g, o', c', h, _⟩ := HC.2 0 y rfl; cases h
    subst hx0
    refine wpList_plain hgd fun K hK => ?_
    have hrun : (Builtin.append_ #[t, t] o.type #[v, .slice none 0 c]).run P W = .ok v W := by
      rcases hown.2 with ⟨rfl, hn⟩ | ⟨g, cap, cur, rfl, _, _, hnc, _⟩
      · simp [Builtin.append_, run_underlying ht, sizeOf, typeInfo, hi, Builtin.lenOf, Builtin.firstCells]
      · simp [Builtin.append_, run_underlying ht, sizeOf, typeInfo, hi, Builtin.lenOf, Builtin.firstCells, hnc, storeCells]
    unfold Oper.wp execOp
    simp only [List.length_nil] at hx
    simp only [ho, resolve, invoke, builtin, Sem.run_bind, Sem.run_pure, Result.andThen_ok, List.map_toArray, List.map_cons, List.map_nil, hs, hx, hrun]
    refine hK _ _ (h v W ?_ (World.grownBy.refl W _) (.inl rfl))
    rw [List.append_nil]
    exact ⟨cs, hown, hreps⟩
  · refine wpList_append_own_at W hgd s x t ho base e i0 z d.sz bytes ht hi hz0 (by omega) hz2 (by omega) (by omega) v ys.length cs hs hown ad xs.length c news hx hrn.length (hcell ad rfl) h1 (by simp only [maxLen]; omega) hl hbase ?_
    intro v1 w1 hown1 hg _ hat
    refine h v1 w1 ⟨_, by simpa using hown1, ?_⟩ hg hat
    exact (hreps.imp fun _ _ hk => Kd.K_own hown hE hbb hg hk).append (hrn.imp fun _ _ hk => Kd.K_own hown hE hbb hg hk)
/-- append(s, x): one element, its cells in a block of their own ahead of it. -/
theorem append_one (d : Kd α) {W : World} (e : Nat) (b : Zn) (base : Nat) (hgd : o.guard = none) (s x : Operand) (t : TypeId) (z : Value) (sz bytes : Nat)
    (ho : o.op = .call { callee := .builtin .append, args := #[s, x], argTypes := #[t, t] })
    (ht : P.underlying t = some (.slice e)) (hinfo : (P.info? e).map (fun i => (i.zero, i.size, i.bytes)) = some (some z, sz, bytes)) (hsz : d.sz = sz) (hz : z.cells.size = sz) (hb0 : 0 < bytes) (hs0 : 0 < sz) (hE : e ∉ d.E) (hbb : b.hi ≤ base)
    (v : Value) (ys : List α) (y : α) (cy : List Value) (hs : a.eval s = v) (hx : a.eval x = .slice (some ⟨W.heap.size, 0, none⟩) 1 1)
    (HO : d.O e b base W v ys) (HK : d.K b W y cy) (hbase : base ≤ W.heap.size) (hl : (ys.length + 1) * bytes ≤ 140737488355328)
    (h : ∀ v1 w1, d.O e b base w1 v1 (ys ++ [y]) → W.grownBy w1 v.ownBlock → (v1.ownBlock = v.ownBlock ∨ ∃ k, v1.ownBlock = some k ∧ W.heap.size ≤ k) → wpList P ops Q rest (a.put o.dst v1) w1) :
    wpList P ops Q (o :: rest) a (W.alloc (.cells cy.toArray e)) := by
  have hB : Below W.heap.size W (W.alloc (.cells cy.toArray e)) := (Below.refl _ W).alloc (Nat.le_refl _) _
  have hnew := heap_alloc_new W (.cells cy.toArray e)
  have hcl := d.len HK
  have hlen : ys.length + 1 ≤ 140737488355328 := Nat.le_trans (Nat.le_mul_of_pos_right _ hb0) hl
  obtain ⟨cs, hown, hreps⟩ := Kd.O_below HO hB
  obtain ⟨i0, hi, hzz⟩ := Option.map_eq_some_iff.1 hinfo
  simp only [Prod.mk.injEq] at hzz
  obtain ⟨hz0, hz1, hz2⟩ := hzz
  refine wpList_append_own_at (W.alloc (.cells cy.toArray e)) hgd s x t ho base e i0 z d.sz bytes ht hi hz0 (by omega) hz2 (by omega) (by omega) v ys.length cs hs hown ⟨W.heap.size, 0, none⟩ 1 1 cy hx (by omega)
    (fun j u hu => by rw [add_plain, cell_of_row _ _ _ _ _ _ hnew]; simpa using hu) (d.one HK) (by simp only [maxLen]; omega) hl (by simp; omega) ?_
  intro v1 w1 hown1 hg _ hat
  refine h v1 w1 ⟨_, by simpa using hown1, ?_⟩ (World.grownBy.trans (World.grownBy_alloc W _ _) hg) ?_
  · exact (hreps.imp fun _ _ hk => Kd.K_own hown hE hbb hg hk).append (Reps.one hcl (Kd.K_own hown hE hbb hg (Kd.K_below HK hB)))
  · rcases hat with hat | hat
    · exact .inl hat
    · exact .inr ⟨_, hat, by simp⟩
end
/-- Behind an append: below base nothing has turned. -/
theorem below_grown {B : Nat} {w0 W w1 : World} {v : Value} (h : Below B w0 W) (hg : W.grownBy w1 v.ownBlock) (hB : B ≤ W.heap.size) {base e sz n : Nat} {cs : List Value} (ho : W.ownsRow base e sz v n cs) (hb : B ≤ base) : Below B w0 w1 :=
  h.grown hg hB (fun k hk => Nat.le_trans hb (ho.lt k hk).1)
theorem below_O {α : Type} {d : Kd α} {B : Nat} {w0 W w1 : World} {v : Value} {e base : Nat} {b : Zn} {xs : List α} (h : Below B w0 W) (hg : W.grownBy w1 v.ownBlock) (hB : B ≤ W.heap.size) (ho : d.O e b base W v xs) (hb : B ≤ base) : Below B w0 w1 := by
  obtain ⟨cs, ho, _⟩ := ho
  exact below_grown h hg hB ho hb
end Go.Proofs.Ytagihamgaidikaa
