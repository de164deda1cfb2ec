/- slices.Clone at each type: the same elements, in a row of the call's own. -/
import Derived.Test.YtagihamgaidikaaOwn
import Derived.Test.YtagihamgaidikaaEq
import Derived.WalkSpells
set_option linter.unusedVariables false
set_option linter.unusedSimpArgs false
namespace Go.Proofs.Ytagihamgaidikaa
open Go.RowKit
set_option maxHeartbeats 4000000

theorem clone_int (A : Option Addr) (c : Nat) (b : Zn) (xs : List Int) (w : World) (hx : (I64).C 3 b w A xs) (hb : b.hi ≤ w.heap.size) (hl : xs.length * 8 ≤ 140737488355328) :
    Calls Try.prog 26 #[.slice A xs.length c] w fun e w' => ∃ v, e = .returned v ∧ (I64).O 3 b w.heap.size w' v xs ∧ Below w.heap.size w w' := by
  rcases A with _ | ad
  · have hx0 : xs = [] := by
      cases xs with
      | nil => rfl
      | cons y r => obtain ⟨g, o', c', h, _⟩ := hx.2 0 y rfl; cases h
    subst hx0
    have hn := fun W => Lib.run_eql_slice_nil (P := Try.prog) W 30 3 none 0 c 0 0 Try.underlying30
    go_enter Try.func26, Try.ntmps26
    go_wp2
    go_ret
    exact ⟨_, rfl, Kd.O_nil .., Below.refl _ _⟩
  · have hn := fun W => Lib.run_eql_slice_nil (P := Try.prog) W 30 3 (some ad) xs.length c 0 0 Try.underlying30
    have hC := Kd.C_below hx ((Below.refl _ w).alloc (Nat.le_refl _) (.cells #[] 3))
    have hO := Kd.O_empty (I64) 3 b w.heap.size w (Nat.le_refl _)
    have HC := Lib.hid hC
    have HO := Lib.hid hO
    clear hx hC hO
    go_enter Try.func26, Try.ntmps26
    go_wp2_with (at_builtin; refine append_row (I64) 3 b w.heap.size rfl _ _ 30 (.int .i64 0) 1 8 rfl Try.underlying30 (by kernel_rfl) rfl rfl (by decide) (by decide) (by decide) hb _ [] xs (some ad) c rfl rfl HO.out HC.out (by simp) (by simpa using hl) ?_; intro v1 w1 h1 h2 h3)
    go_ret
    exact ⟨_, rfl, by simpa using h1, below_O (B := w.heap.size) ((Below.refl _ w).alloc (Nat.le_refl _) _) h2 (by simp) HO.out (Nat.le_refl _)⟩

theorem clone_u8 (A : Option Addr) (c : Nat) (b : Zn) (xs : List Int) (w : World) (hx : (U8).C 5 b w A xs) (hb : b.hi ≤ w.heap.size) (hl : xs.length * 1 ≤ 140737488355328) :
    Calls Try.prog 12 #[.slice A xs.length c] w fun e w' => ∃ v, e = .returned v ∧ (U8).O 5 b w.heap.size w' v xs ∧ Below w.heap.size w w' := by
  rcases A with _ | ad
  · have hx0 : xs = [] := by
      cases xs with
      | nil => rfl
      | cons y r => obtain ⟨g, o', c', h, _⟩ := hx.2 0 y rfl; cases h
    subst hx0
    have hn := fun W => Lib.run_eql_slice_nil (P := Try.prog) W 24 5 none 0 c 0 0 Try.underlying24
    go_enter Try.func12, Try.ntmps12
    go_wp2
    go_ret
    exact ⟨_, rfl, Kd.O_nil .., Below.refl _ _⟩
  · have hn := fun W => Lib.run_eql_slice_nil (P := Try.prog) W 24 5 (some ad) xs.length c 0 0 Try.underlying24
    have hC := Kd.C_below hx ((Below.refl _ w).alloc (Nat.le_refl _) (.cells #[] 5))
    have hO := Kd.O_empty (U8) 5 b w.heap.size w (Nat.le_refl _)
    have HC := Lib.hid hC
    have HO := Lib.hid hO
    clear hx hC hO
    go_enter Try.func12, Try.ntmps12
    go_wp2_with (at_builtin; refine append_row (U8) 5 b w.heap.size rfl _ _ 24 (.int .u8 0) 1 1 rfl Try.underlying24 (by kernel_rfl) rfl rfl (by decide) (by decide) (by decide) hb _ [] xs (some ad) c rfl rfl HO.out HC.out (by simp) (by simpa using hl) ?_; intro v1 w1 h1 h2 h3)
    go_ret
    exact ⟨_, rfl, by simpa using h1, below_O (B := w.heap.size) ((Below.refl _ w).alloc (Nat.le_refl _) _) h2 (by simp) HO.out (Nat.le_refl _)⟩

theorem clone_bool (A : Option Addr) (c : Nat) (b : Zn) (xs : List Bool) (w : World) (hx : (Kd.bool).C 4 b w A xs) (hb : b.hi ≤ w.heap.size) (hl : xs.length * 1 ≤ 140737488355328) :
    Calls Try.prog 14 #[.slice A xs.length c] w fun e w' => ∃ v, e = .returned v ∧ (Kd.bool).O 4 b w.heap.size w' v xs ∧ Below w.heap.size w w' := by
  rcases A with _ | ad
  · have hx0 : xs = [] := by
      cases xs with
      | nil => rfl
      | cons y r => obtain ⟨g, o', c', h, _⟩ := hx.2 0 y rfl; cases h
    subst hx0
    have hn := fun W => Lib.run_eql_slice_nil (P := Try.prog) W 38 4 none 0 c 0 0 Try.underlying38
    go_enter Try.func14, Try.ntmps14
    go_wp2
    go_ret
    exact ⟨_, rfl, Kd.O_nil .., Below.refl _ _⟩
  · have hn := fun W => Lib.run_eql_slice_nil (P := Try.prog) W 38 4 (some ad) xs.length c 0 0 Try.underlying38
    have hC := Kd.C_below hx ((Below.refl _ w).alloc (Nat.le_refl _) (.cells #[] 4))
    have hO := Kd.O_empty (Kd.bool) 4 b w.heap.size w (Nat.le_refl _)
    have HC := Lib.hid hC
    have HO := Lib.hid hO
    clear hx hC hO
    go_enter Try.func14, Try.ntmps14
    go_wp2_with (at_builtin; refine append_row (Kd.bool) 4 b w.heap.size rfl _ _ 38 (.bool false) 1 1 rfl Try.underlying38 (by kernel_rfl) rfl rfl (by decide) (by decide) (by decide) hb _ [] xs (some ad) c rfl rfl HO.out HC.out (by simp) (by simpa using hl) ?_; intro v1 w1 h1 h2 h3)
    go_ret
    exact ⟨_, rfl, by simpa using h1, below_O (B := w.heap.size) ((Below.refl _ w).alloc (Nat.le_refl _) _) h2 (by simp) HO.out (Nat.le_refl _)⟩

theorem clone_sec (A : Option Addr) (c : Nat) (b : Zn) (xs : List Sec) (w : World) (hx : (kSec).C 57 b w A xs) (hb : b.hi ≤ w.heap.size) (hl : xs.length * 16 ≤ 140737488355328) :
    Calls Try.prog 43 #[.slice A xs.length c] w fun e w' => ∃ v, e = .returned v ∧ (kSec).O 57 b w.heap.size w' v xs ∧ Below w.heap.size w w' := by
  rcases A with _ | ad
  · have hx0 : xs = [] := by
      cases xs with
      | nil => rfl
      | cons y r => obtain ⟨g, o', c', h, _⟩ := hx.2 0 y rfl; cases h
    subst hx0
    have hn := fun W => Lib.run_eql_slice_nil (P := Try.prog) W 50 57 none 0 c 0 0 Try.underlying50
    go_enter Try.func43, Try.ntmps43
    go_wp2
    go_ret
    exact ⟨_, rfl, Kd.O_nil .., Below.refl _ _⟩
  · have hn := fun W => Lib.run_eql_slice_nil (P := Try.prog) W 50 57 (some ad) xs.length c 0 0 Try.underlying50
    have hC := Kd.C_below hx ((Below.refl _ w).alloc (Nat.le_refl _) (.cells #[] 57))
    have hO := Kd.O_empty (kSec) 57 b w.heap.size w (Nat.le_refl _)
    have HC := Lib.hid hC
    have HO := Lib.hid hO
    clear hx hC hO
    go_enter Try.func43, Try.ntmps43
    go_wp2_with (at_builtin; refine append_row (kSec) 57 b w.heap.size rfl _ _ 50 (.agg #[.int .i64 0, .int .i64 0]) 2 16 rfl Try.underlying50 (by kernel_rfl) rfl rfl (by decide) (by decide) (by decide) hb _ [] xs (some ad) c rfl rfl HO.out HC.out (by simp) (by simpa using hl) ?_; intro v1 w1 h1 h2 h3)
    go_ret
    exact ⟨_, rfl, by simpa using h1, below_O (B := w.heap.size) ((Below.refl _ w).alloc (Nat.le_refl _) _) h2 (by simp) HO.out (Nat.le_refl _)⟩

theorem clone_filt (A : Option Addr) (c : Nat) (b : Zn) (xs : List Filt) (w : World) (hx : (kFilt).C 53 b w A xs) (hb : b.hi ≤ w.heap.size) (hl : xs.length * 48 ≤ 140737488355328) :
    Calls Try.prog 46 #[.slice A xs.length c] w fun e w' => ∃ v, e = .returned v ∧ (kFilt).O 53 b w.heap.size w' v xs ∧ Below w.heap.size w w' := by
  rcases A with _ | ad
  · have hx0 : xs = [] := by
      cases xs with
      | nil => rfl
      | cons y r => obtain ⟨g, o', c', h, _⟩ := hx.2 0 y rfl; cases h
    subst hx0
    have hn := fun W => Lib.run_eql_slice_nil (P := Try.prog) W 51 53 none 0 c 0 0 Try.underlying51
    go_enter Try.func46, Try.ntmps46
    go_wp2
    go_ret
    exact ⟨_, rfl, Kd.O_nil .., Below.refl _ _⟩
  · have hn := fun W => Lib.run_eql_slice_nil (P := Try.prog) W 51 53 (some ad) xs.length c 0 0 Try.underlying51
    have hC := Kd.C_below hx ((Below.refl _ w).alloc (Nat.le_refl _) (.cells #[] 53))
    have hO := Kd.O_empty (kFilt) 53 b w.heap.size w (Nat.le_refl _)
    have HC := Lib.hid hC
    have HO := Lib.hid hO
    clear hx hC hO
    go_enter Try.func46, Try.ntmps46
    go_wp2_with (at_builtin; refine append_row (kFilt) 53 b w.heap.size rfl _ _ 51 (.agg #[.int .i64 0, .int .i64 0, .bool false, .bool false, .slice none 0 0]) 5 48 rfl Try.underlying51 (by kernel_rfl) rfl rfl (by decide) (by decide) (by decide) hb _ [] xs (some ad) c rfl rfl HO.out HC.out (by simp) (by simpa using hl) ?_; intro v1 w1 h1 h2 h3)
    go_ret
    exact ⟨_, rfl, by simpa using h1, below_O (B := w.heap.size) ((Below.refl _ w).alloc (Nat.le_refl _) _) h2 (by simp) HO.out (Nat.le_refl _)⟩

theorem clone_chan (A : Option Addr) (c : Nat) (b : Zn) (xs : List Chn) (w : World) (hx : (kChn).C 37 b w A xs) (hb : b.hi ≤ w.heap.size) (hl : xs.length * 144 ≤ 140737488355328) :
    Calls Try.prog 10 #[.slice A xs.length c] w fun e w' => ∃ v, e = .returned v ∧ (kChn).O 37 b w.heap.size w' v xs ∧ Below w.heap.size w w' := by
  rcases A with _ | ad
  · have hx0 : xs = [] := by
      cases xs with
      | nil => rfl
      | cons y r => obtain ⟨g, o', c', h, _⟩ := hx.2 0 y rfl; cases h
    subst hx0
    have hn := fun W => Lib.run_eql_slice_nil (P := Try.prog) W 22 37 none 0 c 0 0 Try.underlying22
    go_enter Try.func10, Try.ntmps10
    go_wp2
    go_ret
    exact ⟨_, rfl, Kd.O_nil .., Below.refl _ _⟩
  · have hn := fun W => Lib.run_eql_slice_nil (P := Try.prog) W 22 37 (some ad) xs.length c 0 0 Try.underlying22
    have hC := Kd.C_below hx ((Below.refl _ w).alloc (Nat.le_refl _) (.cells #[] 37))
    have hO := Kd.O_empty (kChn) 37 b w.heap.size w (Nat.le_refl _)
    have HC := Lib.hid hC
    have HO := Lib.hid hO
    clear hx hC hO
    go_enter Try.func10, Try.ntmps10
    go_wp2_with (at_builtin; refine append_row (kChn) 37 b w.heap.size rfl _ _ 22 (.agg #[.int .i64 0, .int .u8 0, .int .u8 0, .int .i64 0, .slice none 0 0, .slice none 0 0, .slice none 0 0, .slice none 0 0, .slice none 0 0]) 9 144 rfl Try.underlying22 (by kernel_rfl) rfl rfl (by decide) (by decide) (by decide) hb _ [] xs (some ad) c rfl rfl HO.out HC.out (by simp) (by simpa using hl) ?_; intro v1 w1 h1 h2 h3)
    go_ret
    exact ⟨_, rfl, by simpa using h1, below_O (B := w.heap.size) ((Below.refl _ w).alloc (Nat.le_refl _) _) h2 (by simp) HO.out (Nat.le_refl _)⟩

theorem clone_secs (A : Option Addr) (c : Nat) (b : Zn) (xs : List (List Sec)) (w : World) (hx : (Kd.sl 57 kSec).C 50 b w A xs) (hb : b.hi ≤ w.heap.size) (hl : xs.length * 24 ≤ 140737488355328) :
    Calls Try.prog 42 #[.slice A xs.length c] w fun e w' => ∃ v, e = .returned v ∧ (Kd.sl 57 kSec).O 50 b w.heap.size w' v xs ∧ Below w.heap.size w w' := by
  rcases A with _ | ad
  · have hx0 : xs = [] := by
      cases xs with
      | nil => rfl
      | cons y r => obtain ⟨g, o', c', h, _⟩ := hx.2 0 y rfl; cases h
    subst hx0
    have hn := fun W => Lib.run_eql_slice_nil (P := Try.prog) W 33 50 none 0 c 0 0 Try.underlying33
    go_enter Try.func42, Try.ntmps42
    go_wp2
    go_ret
    exact ⟨_, rfl, Kd.O_nil .., Below.refl _ _⟩
  · have hn := fun W => Lib.run_eql_slice_nil (P := Try.prog) W 33 50 (some ad) xs.length c 0 0 Try.underlying33
    have hC := Kd.C_below hx ((Below.refl _ w).alloc (Nat.le_refl _) (.cells #[] 50))
    have hO := Kd.O_empty (Kd.sl 57 kSec) 50 b w.heap.size w (Nat.le_refl _)
    have HC := Lib.hid hC
    have HO := Lib.hid hO
    clear hx hC hO
    go_enter Try.func42, Try.ntmps42
    go_wp2_with (at_builtin; refine append_row (Kd.sl 57 kSec) 50 b w.heap.size rfl _ _ 33 (.slice none 0 0) 1 24 rfl Try.underlying33 (by kernel_rfl) rfl rfl (by decide) (by decide) (by decide) hb _ [] xs (some ad) c rfl rfl HO.out HC.out (by simp) (by simpa using hl) ?_; intro v1 w1 h1 h2 h3)
    go_ret
    exact ⟨_, rfl, by simpa using h1, below_O (B := w.heap.size) ((Below.refl _ w).alloc (Nat.le_refl _) _) h2 (by simp) HO.out (Nat.le_refl _)⟩

theorem clone_steps (A : Option Addr) (c : Nat) (b : Zn) (xs : List (List Int)) (w : World) (hx : (Kd.sl 3 I64).C 30 b w A xs) (hb : b.hi ≤ w.heap.size) (hl : xs.length * 24 ≤ 140737488355328) :
    Calls Try.prog 44 #[.slice A xs.length c] w fun e w' => ∃ v, e = .returned v ∧ (Kd.sl 3 I64).O 30 b w.heap.size w' v xs ∧ Below w.heap.size w w' := by
  rcases A with _ | ad
  · have hx0 : xs = [] := by
      cases xs with
      | nil => rfl
      | cons y r => obtain ⟨g, o', c', h, _⟩ := hx.2 0 y rfl; cases h
    subst hx0
    have hn := fun W => Lib.run_eql_slice_nil (P := Try.prog) W 34 30 none 0 c 0 0 Try.underlying34
    go_enter Try.func44, Try.ntmps44
    go_wp2
    go_ret
    exact ⟨_, rfl, Kd.O_nil .., Below.refl _ _⟩
  · have hn := fun W => Lib.run_eql_slice_nil (P := Try.prog) W 34 30 (some ad) xs.length c 0 0 Try.underlying34
    have hC := Kd.C_below hx ((Below.refl _ w).alloc (Nat.le_refl _) (.cells #[] 30))
    have hO := Kd.O_empty (Kd.sl 3 I64) 30 b w.heap.size w (Nat.le_refl _)
    have HC := Lib.hid hC
    have HO := Lib.hid hO
    clear hx hC hO
    go_enter Try.func44, Try.ntmps44
    go_wp2_with (at_builtin; refine append_row (Kd.sl 3 I64) 30 b w.heap.size rfl _ _ 34 (.slice none 0 0) 1 24 rfl Try.underlying34 (by kernel_rfl) rfl rfl (by decide) (by decide) (by decide) hb _ [] xs (some ad) c rfl rfl HO.out HC.out (by simp) (by simpa using hl) ?_; intro v1 w1 h1 h2 h3)
    go_ret
    exact ⟨_, rfl, by simpa using h1, below_O (B := w.heap.size) ((Below.refl _ w).alloc (Nat.le_refl _) _) h2 (by simp) HO.out (Nat.le_refl _)⟩

theorem clone_tns (A : Option Addr) (c : Nat) (b : Zn) (xs : List (List Filt)) (w : World) (hx : (Kd.sl 53 kFilt).C 51 b w A xs) (hb : b.hi ≤ w.heap.size) (hl : xs.length * 24 ≤ 140737488355328) :
    Calls Try.prog 45 #[.slice A xs.length c] w fun e w' => ∃ v, e = .returned v ∧ (Kd.sl 53 kFilt).O 51 b w.heap.size w' v xs ∧ Below w.heap.size w w' := by
  rcases A with _ | ad
  · have hx0 : xs = [] := by
      cases xs with
      | nil => rfl
      | cons y r => obtain ⟨g, o', c', h, _⟩ := hx.2 0 y rfl; cases h
    subst hx0
    have hn := fun W => Lib.run_eql_slice_nil (P := Try.prog) W 35 51 none 0 c 0 0 Try.underlying35
    go_enter Try.func45, Try.ntmps45
    go_wp2
    go_ret
    exact ⟨_, rfl, Kd.O_nil .., Below.refl _ _⟩
  · have hn := fun W => Lib.run_eql_slice_nil (P := Try.prog) W 35 51 (some ad) xs.length c 0 0 Try.underlying35
    have hC := Kd.C_below hx ((Below.refl _ w).alloc (Nat.le_refl _) (.cells #[] 51))
    have hO := Kd.O_empty (Kd.sl 53 kFilt) 51 b w.heap.size w (Nat.le_refl _)
    have HC := Lib.hid hC
    have HO := Lib.hid hO
    clear hx hC hO
    go_enter Try.func45, Try.ntmps45
    go_wp2_with (at_builtin; refine append_row (Kd.sl 53 kFilt) 51 b w.heap.size rfl _ _ 35 (.slice none 0 0) 1 24 rfl Try.underlying35 (by kernel_rfl) rfl rfl (by decide) (by decide) (by decide) hb _ [] xs (some ad) c rfl rfl HO.out HC.out (by simp) (by simpa using hl) ?_; intro v1 w1 h1 h2 h3)
    go_ret
    exact ⟨_, rfl, by simpa using h1, below_O (B := w.heap.size) ((Below.refl _ w).alloc (Nat.le_refl _) _) h2 (by simp) HO.out (Nat.le_refl _)⟩

theorem clone_bands (A : Option Addr) (c : Nat) (b : Zn) (xs : List (List Bool)) (w : World) (hx : (Kd.sl 4 Kd.bool).C 38 b w A xs) (hb : b.hi ≤ w.heap.size) (hl : xs.length * 24 ≤ 140737488355328) :
    Calls Try.prog 11 #[.slice A xs.length c] w fun e w' => ∃ v, e = .returned v ∧ (Kd.sl 4 Kd.bool).O 38 b w.heap.size w' v xs ∧ Below w.heap.size w w' := by
  rcases A with _ | ad
  · have hx0 : xs = [] := by
      cases xs with
      | nil => rfl
      | cons y r => obtain ⟨g, o', c', h, _⟩ := hx.2 0 y rfl; cases h
    subst hx0
    have hn := fun W => Lib.run_eql_slice_nil (P := Try.prog) W 23 38 none 0 c 0 0 Try.underlying23
    go_enter Try.func11, Try.ntmps11
    go_wp2
    go_ret
    exact ⟨_, rfl, Kd.O_nil .., Below.refl _ _⟩
  · have hn := fun W => Lib.run_eql_slice_nil (P := Try.prog) W 23 38 (some ad) xs.length c 0 0 Try.underlying23
    have hC := Kd.C_below hx ((Below.refl _ w).alloc (Nat.le_refl _) (.cells #[] 38))
    have hO := Kd.O_empty (Kd.sl 4 Kd.bool) 38 b w.heap.size w (Nat.le_refl _)
    have HC := Lib.hid hC
    have HO := Lib.hid hO
    clear hx hC hO
    go_enter Try.func11, Try.ntmps11
    go_wp2_with (at_builtin; refine append_row (Kd.sl 4 Kd.bool) 38 b w.heap.size rfl _ _ 23 (.slice none 0 0) 1 24 rfl Try.underlying23 (by kernel_rfl) rfl rfl (by decide) (by decide) (by decide) hb _ [] xs (some ad) c rfl rfl HO.out HC.out (by simp) (by simpa using hl) ?_; intro v1 w1 h1 h2 h3)
    go_ret
    exact ⟨_, rfl, by simpa using h1, below_O (B := w.heap.size) ((Below.refl _ w).alloc (Nat.le_refl _) _) h2 (by simp) HO.out (Nat.le_refl _)⟩

end Go.Proofs.Ytagihamgaidikaa
