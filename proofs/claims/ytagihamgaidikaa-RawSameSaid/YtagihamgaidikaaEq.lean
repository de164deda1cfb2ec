/- slices.Equal, slices.EqualFunc, at each type: two lists are the same. -/
import Derived.Test.YtagihamgaidikaaData
import Derived.Test.YtagihamgaidikaaProg
import Derived.BigQuiet
import Derived.Deep.QuietTactic
import Derived.Deep.LoopGhost
import Derived.Outline
import Derived.Lib.Hide
import Derived.Laws.StructEq
set_option linter.unusedVariables false
set_option linter.unusedSimpArgs false
namespace Go.Proofs.Ytagihamgaidikaa
open Go.RowKit
set_option maxHeartbeats 1000000

/-- Are they the same? (A name, that the walk doesn't look into.) -/
def sameB {α : Type} [DecidableEq α] (x y : α) : Bool := decide (x = y)
theorem sameB_yes {α : Type} [DecidableEq α] {x y : α} (h : x = y) : sameB x y = true := decide_eq_true h
theorem sameB_no {α : Type} [DecidableEq α] {x y : α} (h : x ≠ y) : sameB x y = false := decide_eq_false h
theorem eq_step {α : Type} {xs ys : List α} {i : Nat} (d : α) (h : xs.take i = ys.take i) (hx : i < xs.length) (hy : i < ys.length) (he : xs.getD i d = ys.getD i d) : xs.take (i + 1) = ys.take (i + 1) := by
  rw [List.take_succ_eq_append_getElem hx, List.take_succ_eq_append_getElem hy, h]
  simp [List.getD_eq_getElem?_getD, hx, hy] at he
  rw [he]
theorem eq_not {α : Type} {xs ys : List α} {i : Nat} (d : α) (h : xs.getD i d ≠ ys.getD i d) : xs ≠ ys := fun e => h (by rw [e])
theorem eq_end {α : Type} {xs ys : List α} (hl : xs.length = ys.length) (h : xs.take xs.length = ys.take xs.length) : xs = ys := by
  rw [List.take_length, hl, List.take_length] at h
  exact h
theorem bcell {W w1 : World} (hb : Below W.heap.size W w1) : (∀ b o, b < W.heap.size → w1.cell? ⟨b, o, none⟩ = W.cell? ⟨b, o, none⟩) ∧ (∀ b o, b < W.heap.size → w1.frozen? ⟨b, o, none⟩ = W.frozen? ⟨b, o, none⟩) :=
  ⟨fun b o h => hb.cell (p := ⟨b, o, none⟩) h, fun b o h => hb.frozen (p := ⟨b, o, none⟩) h⟩
theorem below_of_drawn {w w' : World} (h : ∃ n, w' = w.drewN n) : Below w.heap.size w w' := by
  obtain ⟨n, rfl⟩ := h
  induction n with
  | zero => exact Below.refl _ _
  | succ n ih => rw [← World.drew_drewN]; exact ih.drew
theorem below_then {w W w1 : World} (h : Below w.heap.size w W) (k : Below W.heap.size W w1) : Below w.heap.size w w1 := h.trans (k.mono h.size)
theorem below_drewN {B : Nat} {a w : World} (h : Below B a w) (n : Nat) : Below B a (w.drewN n) := by
  induction n with
  | zero => exact h
  | succ n ih => rw [← World.drew_drewN]; exact ih.drew

theorem equal_int (A B : Option Addr) (c d : Nat) (b : Zn) (xs ys : List Int) (w : World) (hx : I64.C 3 b w A xs) (hy : I64.C 3 b w B ys) :
   Calls Try.prog 28 #[.slice A xs.length c, .slice B ys.length d] w fun e w' => e = .returned (.bool (sameB xs ys)) ∧ ∃ n, w' = w.drewN n := by
  have hbx := hx.1
  have hby := hy.1
  by_cases hl : xs.length = ys.length
  · have hl' : ((xs.length : Int) != (ys.length : Int)) = false := by simp [hl]
    have HL := Lib.hid hl
    clear hl
    go_enter Try.func28, Try.ntmps28
    go_wp2
    go_loopw [5, 13] (fun _ i wr => ∃ k : Nat, k ≤ xs.length ∧ i = .int .i64 k ∧ Hid (xs.take k = ys.take k) ∧ ∃ n, wr = w.drewN n) (fun _ i _ => xs.length - (intOf i).toNat)
    case atStart => exact ⟨0, Nat.zero_le _, rfl, by simp [Hid], 0, rfl⟩
    case round =>
      obtain ⟨k, hk, rfl, ht, n, rfl⟩ := hrel
      by_cases hlt : k < xs.length
      · have hlt' : k < ys.length := by rw [← HL.out]; exact hlt
        obtain ⟨g, o, rfl, _, hcx, _⟩ := C_int hx hlt
        obtain ⟨g', o', rfl, _, hcy, _⟩ := C_int hy hlt'
        generalize hX : xs.getD k 0 = X at hcx
        generalize hY : ys.getD k 0 = Y at hcy
        have HX := Lib.hid hX
        have HY := Lib.hid hY
        clear hX hY
        by_cases hXY : X = Y
        · subst hXY
          go_wp2_with fail
          go_quiet (fail)
          go_wp2
          all_goals
            go_roundw
            case rel => exact ⟨k + 1, by omega, by go_num, eq_step 0 ht.out hlt hlt' (HX.out.trans HY.out.symm), _, rfl⟩
            case measure => simp [intOf]; omega
        · have hne : (X != Y) = true := by simp [hXY]
          have hne2 : (!(X == Y)) = true := by simp [hXY]
          have HN := Lib.hid hXY
          clear hXY
          go_wp2_with fail
          go_quiet (fail)
          go_wp2
          go_ret
          refine ⟨?_, _, World.drewN_drewN ..⟩
          have : xs ≠ ys := eq_not (i := k) 0 (by rw [HX.out, HY.out]; exact HN.out)
          simp [sameB, this]
      · obtain rfl : k = xs.length := by omega
        go_wp2
        go_ret
        have : xs = ys := eq_end HL.out ht.out
        exact ⟨by simp [sameB, this], n, rfl⟩
  · have hl' : ((xs.length : Int) != (ys.length : Int)) = true := by simp; omega
    have hne : xs ≠ ys := fun e => hl (by rw [e])
    have HN := Lib.hid hne
    clear hne hl
    go_enter Try.func28, Try.ntmps28
    go_wp2
    go_ret
    exact ⟨by simp [sameB, HN.out], 0, rfl⟩

theorem equal_u8 (A B : Option Addr) (c d : Nat) (b : Zn) (xs ys : List Int) (w : World) (hx : U8.C 5 b w A xs) (hy : U8.C 5 b w B ys) :
   Calls Try.prog 15 #[.slice A xs.length c, .slice B ys.length d] w fun e w' => e = .returned (.bool (sameB xs ys)) ∧ ∃ n, w' = w.drewN n := by
  have hbx := hx.1
  have hby := hy.1
  by_cases hl : xs.length = ys.length
  · have hl' : ((xs.length : Int) != (ys.length : Int)) = false := by simp [hl]
    have HL := Lib.hid hl
    clear hl
    go_enter Try.func15, Try.ntmps15
    go_wp2
    go_loopw [5, 13] (fun _ i wr => ∃ k : Nat, k ≤ xs.length ∧ i = .int .i64 k ∧ Hid (xs.take k = ys.take k) ∧ ∃ n, wr = w.drewN n) (fun _ i _ => xs.length - (intOf i).toNat)
    case atStart => exact ⟨0, Nat.zero_le _, rfl, by simp [Hid], 0, rfl⟩
    case round =>
      obtain ⟨k, hk, rfl, ht, n, rfl⟩ := hrel
      by_cases hlt : k < xs.length
      · have hlt' : k < ys.length := by rw [← HL.out]; exact hlt
        obtain ⟨g, o, rfl, _, hcx, _⟩ := C_int hx hlt
        obtain ⟨g', o', rfl, _, hcy, _⟩ := C_int hy hlt'
        generalize hX : xs.getD k 0 = X at hcx
        generalize hY : ys.getD k 0 = Y at hcy
        have HX := Lib.hid hX
        have HY := Lib.hid hY
        clear hX hY
        by_cases hXY : X = Y
        · subst hXY
          go_wp2_with fail
          go_quiet (fail)
          go_wp2
          all_goals
            go_roundw
            case rel => exact ⟨k + 1, by omega, by go_num, eq_step 0 ht.out hlt hlt' (HX.out.trans HY.out.symm), _, rfl⟩
            case measure => simp [intOf]; omega
        · have hne : (X != Y) = true := by simp [hXY]
          have hne2 : (!(X == Y)) = true := by simp [hXY]
          have HN := Lib.hid hXY
          clear hXY
          go_wp2_with fail
          go_quiet (fail)
          go_wp2
          go_ret
          refine ⟨?_, _, World.drewN_drewN ..⟩
          have : xs ≠ ys := eq_not (i := k) 0 (by rw [HX.out, HY.out]; exact HN.out)
          simp [sameB, this]
      · obtain rfl : k = xs.length := by omega
        go_wp2
        go_ret
        have : xs = ys := eq_end HL.out ht.out
        exact ⟨by simp [sameB, this], n, rfl⟩
  · have hl' : ((xs.length : Int) != (ys.length : Int)) = true := by simp; omega
    have hne : xs ≠ ys := fun e => hl (by rw [e])
    have HN := Lib.hid hne
    clear hne hl
    go_enter Try.func15, Try.ntmps15
    go_wp2
    go_ret
    exact ⟨by simp [sameB, HN.out], 0, rfl⟩

theorem equal_bool (A B : Option Addr) (c d : Nat) (b : Zn) (xs ys : List Bool) (w : World) (hx : Kd.bool.C 4 b w A xs) (hy : Kd.bool.C 4 b w B ys) :
   Calls Try.prog 19 #[.slice A xs.length c, .slice B ys.length d] w fun e w' => e = .returned (.bool (sameB xs ys)) ∧ ∃ n, w' = w.drewN n := by
  have hbx := hx.1
  have hby := hy.1
  by_cases hl : xs.length = ys.length
  · have hl' : ((xs.length : Int) != (ys.length : Int)) = false := by simp [hl]
    have HL := Lib.hid hl
    clear hl
    go_enter Try.func19, Try.ntmps19
    go_wp2
    go_loopw [5, 13] (fun _ i wr => ∃ k : Nat, k ≤ xs.length ∧ i = .int .i64 k ∧ Hid (xs.take k = ys.take k) ∧ ∃ n, wr = w.drewN n) (fun _ i _ => xs.length - (intOf i).toNat)
    case atStart => exact ⟨0, Nat.zero_le _, rfl, by simp [Hid], 0, rfl⟩
    case round =>
      obtain ⟨k, hk, rfl, ht, n, rfl⟩ := hrel
      by_cases hlt : k < xs.length
      · have hlt' : k < ys.length := by rw [← HL.out]; exact hlt
        obtain ⟨g, o, rfl, _, hcx⟩ := C_bool hx hlt
        obtain ⟨g', o', rfl, _, hcy⟩ := C_bool hy hlt'
        generalize hX : xs.getD k false = X at hcx
        generalize hY : ys.getD k false = Y at hcy
        have HX := Lib.hid hX
        have HY := Lib.hid hY
        clear hX hY
        by_cases hXY : X = Y
        · subst hXY
          go_wp2_with fail
          go_quiet (fail)
          go_wp2
          all_goals
            go_roundw
            case rel => exact ⟨k + 1, by omega, by go_num, eq_step false ht.out hlt hlt' (HX.out.trans HY.out.symm), _, rfl⟩
            case measure => simp [intOf]; omega
        · have hne : (X != Y) = true := by simp [hXY]
          have hne2 : (!(X == Y)) = true := by simp [hXY]
          have HN := Lib.hid hXY
          clear hXY
          go_wp2_with fail
          go_quiet (fail)
          go_wp2
          go_ret
          refine ⟨?_, _, World.drewN_drewN ..⟩
          have : xs ≠ ys := eq_not (i := k) false (by rw [HX.out, HY.out]; exact HN.out)
          simp [sameB, this]
      · obtain rfl : k = xs.length := by omega
        go_wp2
        go_ret
        have : xs = ys := eq_end HL.out ht.out
        exact ⟨by simp [sameB, this], n, rfl⟩
  · have hl' : ((xs.length : Int) != (ys.length : Int)) = true := by simp; omega
    have hne : xs ≠ ys := fun e => hl (by rw [e])
    have HN := Lib.hid hne
    clear hne hl
    go_enter Try.func19, Try.ntmps19
    go_wp2
    go_ret
    exact ⟨by simp [sameB, HN.out], 0, rfl⟩
theorem guard_sec : Try.prog.eqGuardType Try.prog.depth 57 = false := by kernel_rfl
theorem same_sec (x0 x1 y0 y1 : Int) (w : World) : (Op.equalIn 10000 57 (.agg #[.int .i64 x0, .int .i64 x1]) (.agg #[.int .i64 y0, .int .i64 y1])).run Try.prog w = .ok (sameB (⟨x0, x1⟩ : Sec) ⟨y0, y1⟩) w := by
  have u3 := Try.underlying3
  have hS : Try.prog.underlying 57 = some (.struct (Try.prog.fieldsOf 57)) := by kernel_rfl
  have hp : Try.prog.stoodInHeld 57 = false := by kernel_rfl
  have a3 : ∀ w, (isAgg 3).run Try.prog w = .ok false w := fun w => by kernel_rfl
  have z3 : ∀ w, (sizeOf 3).run Try.prog w = .ok 1 w := fun w => by kernel_rfl
  rw [show (10000 : Nat) = 9999 + 1 from rfl, run_equalIn_agg w 9999 57 _ _ hS hp]
  simp only [Program.fieldsOf, Try.underlying57]
  go_simp
  unfold sameB
  by_cases h1 : x0 = y0 <;> by_cases h2 : x1 = y1 <;> simp [h1, h2]

theorem equal_sec (A B : Option Addr) (c d : Nat) (b : Zn) (xs ys : List Sec) (w : World) (hx : kSec.C 57 b w A xs) (hy : kSec.C 57 b w B ys) :
   Calls Try.prog 30 #[.slice A xs.length c, .slice B ys.length d] w fun e w' => e = .returned (.bool (sameB xs ys)) ∧ ∃ n, w' = w.drewN n := by
  have hbx := hx.1
  have hby := hy.1
  have hu := Try.underlying57
  have hg := guard_sec
  have hs := same_sec
  by_cases hl : xs.length = ys.length
  · have hl' : ((xs.length : Int) != (ys.length : Int)) = false := by simp [hl]
    have HL := Lib.hid hl
    clear hl
    go_enter Try.func30, Try.ntmps30
    go_wp2
    go_loopw [5, 13] (fun _ i wr => ∃ k : Nat, k ≤ xs.length ∧ i = .int .i64 k ∧ Hid (xs.take k = ys.take k) ∧ ∃ n, wr = w.drewN n) (fun _ i _ => xs.length - (intOf i).toNat)
    case atStart => exact ⟨0, Nat.zero_le _, rfl, by simp [Hid], 0, rfl⟩
    case round =>
      obtain ⟨k, hk, rfl, ht, n, rfl⟩ := hrel
      by_cases hlt : k < xs.length
      · have hlt' : k < ys.length := by rw [← HL.out]; exact hlt
        obtain ⟨g, o, cs, rfl, _, hK, hcx⟩ := Kd.C_at hx default hlt
        obtain ⟨g', o', cs', rfl, _, hK', hcy⟩ := Kd.C_at hy default hlt'
        obtain ⟨rfl, _, _⟩ := K_sec.1 hK
        obtain ⟨rfl, _, _⟩ := K_sec.1 hK'
        generalize hX : xs.getD k default = X at hcx
        generalize hY : ys.getD k default = Y at hcy
        obtain ⟨x0, x1⟩ := X
        obtain ⟨y0, y1⟩ := Y
        have cx0 := hcx 0 _ rfl
        have cx1 := hcx 1 _ rfl
        have cy0 := hcy 0 _ rfl
        have cy1 := hcy 1 _ rfl
        simp only [show kSec.sz = 2 from rfl, Nat.add_zero, ← Nat.add_assoc] at cx0 cx1 cy0 cy1
        have HX := Lib.hid hX
        have HY := Lib.hid hY
        clear hX hY hcx hcy hK hK'
        by_cases hXY : (⟨x0, x1⟩ : Sec) = ⟨y0, y1⟩
        · have hd : sameB (⟨x0, x1⟩ : Sec) ⟨y0, y1⟩ = true := sameB_yes hXY
          have HN := Lib.hid hXY
          clear hXY
          go_wp2_with fail
          go_quiet (fail)
          go_wp2
          all_goals
            go_roundw
            case rel => exact ⟨k + 1, by omega, by go_num, eq_step default ht.out hlt hlt' (HX.out.trans (HN.out.trans HY.out.symm)), _, rfl⟩
            case measure => simp [intOf]; omega
        · have hd : sameB (⟨x0, x1⟩ : Sec) ⟨y0, y1⟩ = false := sameB_no hXY
          have HN := Lib.hid hXY
          clear hXY
          go_wp2_with fail
          go_quiet (fail)
          go_wp2
          go_ret
          refine ⟨?_, _, World.drewN_drewN ..⟩
          have : xs ≠ ys := eq_not (i := k) default (by rw [HX.out, HY.out]; exact HN.out)
          simp [sameB, this]
      · obtain rfl : k = xs.length := by omega
        go_wp2
        go_ret
        have : xs = ys := eq_end HL.out ht.out
        exact ⟨by simp [sameB, this], n, rfl⟩
  · have hl' : ((xs.length : Int) != (ys.length : Int)) = true := by simp; omega
    have hne : xs ≠ ys := fun e => hl (by rw [e])
    have HN := Lib.hid hne
    clear hne hl
    go_enter Try.func30, Try.ntmps30
    go_wp2
    go_ret
    exact ⟨by simp [sameB, HN.out], 0, rfl⟩
end Go.Proofs.Ytagihamgaidikaa
