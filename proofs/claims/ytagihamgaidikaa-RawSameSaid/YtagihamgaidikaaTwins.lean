/- lane.twins at each type: lists of lists, in new memory. -/
import Derived.Test.YtagihamgaidikaaOwn2
import Derived.Test.YtagihamgaidikaaClone
set_option linter.unusedVariables false
set_option linter.unusedSimpArgs false
namespace Go.Proofs.Ytagihamgaidikaa
open Go.RowKit
set_option maxHeartbeats 4000000

theorem twins_steps (A : Option Addr) (c : Nat) (b : Zn) (xs : List (List Int)) (w : World) (hx : (Kd.sl 3 I64).C 30 b w A xs) (hb : b.hi ≤ w.heap.size) (hl : xs.length * 24 ≤ 140737488355328) (hl2 : ∀ i, (xs.getD i []).length * 8 ≤ 140737488355328) :
    Calls Try.prog 24 #[.slice A xs.length c] w fun e w' => ∃ v vs, e = .returned v ∧ (I64).OO 3 30 b (fun _ _ => b) w.heap.size xs.length w' v xs vs ∧ Below w.heap.size w w' := by
  have key := clone_steps A c b xs w hx hb hl
  have KEY := Lib.hid key
  have HL := Lib.hid hl2
  have hmx := hx.1
  clear key hx hl2
  go_enter Try.func24, Try.ntmps24
  go_wp2_with fail
  refine KEY.out.mono ?_
  rintro e w' ⟨v, rfl, hO, hB⟩
  obtain ⟨vs, hZ⟩ := Kd.OO_start (z := fun _ _ => b) hO
  rcases hZ.form with ⟨rfl, rfl⟩ | ⟨g, cap, rfl, hg1, hg2, _, _, _⟩
  · have HB := Lib.hid hB
    have HZ := Lib.hid hZ
    clear hB hO hZ
    go_wp2
    go_loopw [3, 8] (fun _ i wr => i = .int .i64 0 ∧ wr = w') (fun _ i _ => 0)
    case atStart => exact ⟨rfl, rfl⟩
    case round =>
      obtain ⟨rfl, rfl⟩ := hrel
      go_wp2
      go_ret
      exact ⟨_, vs, rfl, HZ.out, HB.out⟩
  · have hbs := hB.size
    have HB := Lib.hid hB
    have HZ := Lib.hid hZ
    clear hB hO hZ
    go_wp2
    go_loopw [3, 8] (fun _ i wr => ∃ (k : Nat) (vs : List Value), k ≤ xs.length ∧ i = .int .i64 k ∧ Hid ((I64).OO 3 30 b (fun _ _ => b) w.heap.size k wr (.slice (some ⟨g, 0, none⟩) xs.length cap) xs vs) ∧ Below w.heap.size w wr ∧ g < wr.heap.size) (fun _ i _ => xs.length - (intOf i).toNat)
    case atStart => exact ⟨0, vs, Nat.zero_le _, rfl, HZ.out, HB.out, hg2⟩
    case round =>
      obtain ⟨k, vs, hk, rfl, hz, hB, hg4⟩ := hrel
      have hbs' := hB.size
      by_cases hlt : k < xs.length
      · obtain ⟨u, hu, A', c', hu2, _, _, hC⟩ := hz.out.old k _ (Nat.le_refl _) (List.getElem?_eq_getElem hlt)
        injection hu2 with hu2
        subst hu2
        obtain ⟨h0, hf0⟩ := hz.out.cell hu
        have hl3 := HL.out k
        rw [show xs.getD k [] = xs[k] by simp [List.getD_eq_getElem?_getD, hlt]] at hl3
        have key := clone_int A' c' b xs[k] wr hC (by omega) hl3
        have HX := Lib.hid (List.getElem?_eq_getElem hlt)
        generalize xs[k] = X at key h0 HX
        have KY := Lib.hid key
        clear key hC hu
        go_wp2_with (go_at_call 26; refine KY.out.mono ?_; rintro e w' ⟨v, rfl, hO1, hB1⟩; have hc1 : w'.cell? ⟨g, k, none⟩ = some (.slice A' X.length c') := (hB1.cell (p := ⟨g, k, none⟩) hg4).trans h0; have hf1 : w'.frozen? ⟨g, k, none⟩ = false := (hB1.frozen (p := ⟨g, k, none⟩) hg4).trans hf0; have HO := Lib.hid hO1; have HB1 := Lib.hid hB1; have hs1 := hB1.size; obtain ⟨Av, cv, rfl, _, _⟩ := Kd.O_slice hO1; clear hO1 hB1)
        all_goals
          go_roundw
          case rel => exact ⟨k + 1, _, by omega, by go_num, (hz.out.below HB1.out).set (by decide) (by decide) hb (fun _ _ => hb) HX.out (Kd.OZ_of HO.out) (by omega) hz.out.low, (below_then hB HB1.out).setCell hg1 _, by simp; omega⟩
          case measure => simp [intOf]; omega
      · obtain rfl : k = xs.length := by omega
        go_wp2
        go_ret
        exact ⟨_, vs, rfl, hz.out, hB⟩

theorem twins_secs (A : Option Addr) (c : Nat) (b : Zn) (xs : List (List Sec)) (w : World) (hx : (Kd.sl 57 kSec).C 50 b w A xs) (hb : b.hi ≤ w.heap.size) (hl : xs.length * 24 ≤ 140737488355328) (hl2 : ∀ i, (xs.getD i []).length * 16 ≤ 140737488355328) :
    Calls Try.prog 23 #[.slice A xs.length c] w fun e w' => ∃ v vs, e = .returned v ∧ (kSec).OO 57 50 b (fun _ _ => b) w.heap.size xs.length w' v xs vs ∧ Below w.heap.size w w' := by
  have key := clone_secs A c b xs w hx hb hl
  have KEY := Lib.hid key
  have HL := Lib.hid hl2
  have hmx := hx.1
  clear key hx hl2
  go_enter Try.func23, Try.ntmps23
  go_wp2_with fail
  refine KEY.out.mono ?_
  rintro e w' ⟨v, rfl, hO, hB⟩
  obtain ⟨vs, hZ⟩ := Kd.OO_start (z := fun _ _ => b) hO
  rcases hZ.form with ⟨rfl, rfl⟩ | ⟨g, cap, rfl, hg1, hg2, _, _, _⟩
  · have HB := Lib.hid hB
    have HZ := Lib.hid hZ
    clear hB hO hZ
    go_wp2
    go_loopw [3, 8] (fun _ i wr => i = .int .i64 0 ∧ wr = w') (fun _ i _ => 0)
    case atStart => exact ⟨rfl, rfl⟩
    case round =>
      obtain ⟨rfl, rfl⟩ := hrel
      go_wp2
      go_ret
      exact ⟨_, vs, rfl, HZ.out, HB.out⟩
  · have hbs := hB.size
    have HB := Lib.hid hB
    have HZ := Lib.hid hZ
    clear hB hO hZ
    go_wp2
    go_loopw [3, 8] (fun _ i wr => ∃ (k : Nat) (vs : List Value), k ≤ xs.length ∧ i = .int .i64 k ∧ Hid ((kSec).OO 57 50 b (fun _ _ => b) w.heap.size k wr (.slice (some ⟨g, 0, none⟩) xs.length cap) xs vs) ∧ Below w.heap.size w wr ∧ g < wr.heap.size) (fun _ i _ => xs.length - (intOf i).toNat)
    case atStart => exact ⟨0, vs, Nat.zero_le _, rfl, HZ.out, HB.out, hg2⟩
    case round =>
      obtain ⟨k, vs, hk, rfl, hz, hB, hg4⟩ := hrel
      have hbs' := hB.size
      by_cases hlt : k < xs.length
      · obtain ⟨u, hu, A', c', hu2, _, _, hC⟩ := hz.out.old k _ (Nat.le_refl _) (List.getElem?_eq_getElem hlt)
        injection hu2 with hu2
        subst hu2
        obtain ⟨h0, hf0⟩ := hz.out.cell hu
        have hl3 := HL.out k
        rw [show xs.getD k [] = xs[k] by simp [List.getD_eq_getElem?_getD, hlt]] at hl3
        have key := clone_sec A' c' b xs[k] wr hC (by omega) hl3
        have HX := Lib.hid (List.getElem?_eq_getElem hlt)
        generalize xs[k] = X at key h0 HX
        have KY := Lib.hid key
        clear key hC hu
        go_wp2_with (go_at_call 43; refine KY.out.mono ?_; rintro e w' ⟨v, rfl, hO1, hB1⟩; have hc1 : w'.cell? ⟨g, k, none⟩ = some (.slice A' X.length c') := (hB1.cell (p := ⟨g, k, none⟩) hg4).trans h0; have hf1 : w'.frozen? ⟨g, k, none⟩ = false := (hB1.frozen (p := ⟨g, k, none⟩) hg4).trans hf0; have HO := Lib.hid hO1; have HB1 := Lib.hid hB1; have hs1 := hB1.size; obtain ⟨Av, cv, rfl, _, _⟩ := Kd.O_slice hO1; clear hO1 hB1)
        all_goals
          go_roundw
          case rel => exact ⟨k + 1, _, by omega, by go_num, (hz.out.below HB1.out).set (by decide) (by decide) hb (fun _ _ => hb) HX.out (Kd.OZ_of HO.out) (by omega) hz.out.low, (below_then hB HB1.out).setCell hg1 _, by simp; omega⟩
          case measure => simp [intOf]; omega
      · obtain rfl : k = xs.length := by omega
        go_wp2
        go_ret
        exact ⟨_, vs, rfl, hz.out, hB⟩

theorem twins_tns (A : Option Addr) (c : Nat) (b : Zn) (xs : List (List Filt)) (w : World) (hx : (Kd.sl 53 kFilt).C 51 b w A xs) (hb : b.hi ≤ w.heap.size) (hl : xs.length * 24 ≤ 140737488355328) (hl2 : ∀ i, (xs.getD i []).length * 48 ≤ 140737488355328) :
    Calls Try.prog 25 #[.slice A xs.length c] w fun e w' => ∃ v vs, e = .returned v ∧ (kFilt).OO 53 51 b (fun _ _ => b) w.heap.size xs.length w' v xs vs ∧ Below w.heap.size w w' := by
  have key := clone_tns A c b xs w hx hb hl
  have KEY := Lib.hid key
  have HL := Lib.hid hl2
  have hmx := hx.1
  clear key hx hl2
  go_enter Try.func25, Try.ntmps25
  go_wp2_with fail
  refine KEY.out.mono ?_
  rintro e w' ⟨v, rfl, hO, hB⟩
  obtain ⟨vs, hZ⟩ := Kd.OO_start (z := fun _ _ => b) hO
  rcases hZ.form with ⟨rfl, rfl⟩ | ⟨g, cap, rfl, hg1, hg2, _, _, _⟩
  · have HB := Lib.hid hB
    have HZ := Lib.hid hZ
    clear hB hO hZ
    go_wp2
    go_loopw [3, 8] (fun _ i wr => i = .int .i64 0 ∧ wr = w') (fun _ i _ => 0)
    case atStart => exact ⟨rfl, rfl⟩
    case round =>
      obtain ⟨rfl, rfl⟩ := hrel
      go_wp2
      go_ret
      exact ⟨_, vs, rfl, HZ.out, HB.out⟩
  · have hbs := hB.size
    have HB := Lib.hid hB
    have HZ := Lib.hid hZ
    clear hB hO hZ
    go_wp2
    go_loopw [3, 8] (fun _ i wr => ∃ (k : Nat) (vs : List Value), k ≤ xs.length ∧ i = .int .i64 k ∧ Hid ((kFilt).OO 53 51 b (fun _ _ => b) w.heap.size k wr (.slice (some ⟨g, 0, none⟩) xs.length cap) xs vs) ∧ Below w.heap.size w wr ∧ g < wr.heap.size) (fun _ i _ => xs.length - (intOf i).toNat)
    case atStart => exact ⟨0, vs, Nat.zero_le _, rfl, HZ.out, HB.out, hg2⟩
    case round =>
      obtain ⟨k, vs, hk, rfl, hz, hB, hg4⟩ := hrel
      have hbs' := hB.size
      by_cases hlt : k < xs.length
      · obtain ⟨u, hu, A', c', hu2, _, _, hC⟩ := hz.out.old k _ (Nat.le_refl _) (List.getElem?_eq_getElem hlt)
        injection hu2 with hu2
        subst hu2
        obtain ⟨h0, hf0⟩ := hz.out.cell hu
        have hl3 := HL.out k
        rw [show xs.getD k [] = xs[k] by simp [List.getD_eq_getElem?_getD, hlt]] at hl3
        have key := clone_filt A' c' b xs[k] wr hC (by omega) hl3
        have HX := Lib.hid (List.getElem?_eq_getElem hlt)
        generalize xs[k] = X at key h0 HX
        have KY := Lib.hid key
        clear key hC hu
        go_wp2_with (go_at_call 46; refine KY.out.mono ?_; rintro e w' ⟨v, rfl, hO1, hB1⟩; have hc1 : w'.cell? ⟨g, k, none⟩ = some (.slice A' X.length c') := (hB1.cell (p := ⟨g, k, none⟩) hg4).trans h0; have hf1 : w'.frozen? ⟨g, k, none⟩ = false := (hB1.frozen (p := ⟨g, k, none⟩) hg4).trans hf0; have HO := Lib.hid hO1; have HB1 := Lib.hid hB1; have hs1 := hB1.size; obtain ⟨Av, cv, rfl, _, _⟩ := Kd.O_slice hO1; clear hO1 hB1)
        all_goals
          go_roundw
          case rel => exact ⟨k + 1, _, by omega, by go_num, (hz.out.below HB1.out).set (by decide) (by decide) hb (fun _ _ => hb) HX.out (Kd.OZ_of HO.out) (by omega) hz.out.low, (below_then hB HB1.out).setCell hg1 _, by simp; omega⟩
          case measure => simp [intOf]; omega
      · obtain rfl : k = xs.length := by omega
        go_wp2
        go_ret
        exact ⟨_, vs, rfl, hz.out, hB⟩

end Go.Proofs.Ytagihamgaidikaa
