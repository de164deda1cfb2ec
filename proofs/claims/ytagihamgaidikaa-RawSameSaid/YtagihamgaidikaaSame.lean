/- Comparing: filters, windows, channels, frames: each compares its fields, list by list. -/
import Derived.Test.YtagihamgaidikaaEq
set_option linter.unusedVariables false
set_option linter.unusedSimpArgs false
namespace Go.Proofs.Ytagihamgaidikaa
open Go.RowKit
set_option maxHeartbeats 4000000

theorem alike (x y : Filt) (cs ds : List Value) (b : Zn) (w : World) (hx : kFilt.K b w x cs) (hy : kFilt.K b w y ds) :
    Calls Try.prog 35 #[.agg cs.toArray, .agg ds.toArray] w fun e w' => e = .returned (.bool (sameB x y)) ∧ Below w.heap.size w w' := by
  obtain ⟨A0, c0, rfl, _, _, _, _, hC⟩ := K_filt.1 hx
  obtain ⟨A1, c1, rfl, _, _, _, _, hC'⟩ := K_filt.1 hy
  obtain ⟨x0, x1, x2, x3, x4⟩ := x
  obtain ⟨y0, y1, y2, y3, y4⟩ := y
  have hu := Try.underlying53
  dsimp only at hC hC' 
  clear hx hy
  have key := fun W hW => equal_int A0 A1 c0 c1 b x4 y4 W (Kd.C_below hC hW) (Kd.C_below hC' hW)
  have KEY := Lib.hid key
  clear key hC hC'
  go_enter Try.func35, Try.ntmps35
  go_wp2_with (go_at_call 28; refine (KEY.out _ (by repeat (first | with_reducible exact Below.refl _ _ | with_reducible assumption | with_reducible refine Below.drew ?_ | with_reducible refine below_drewN ?_ _ | (with_reducible refine Below.alloc ?_ ?_ _; rotate_left 1; focus (first | (simp; done) | (simp; omega) | omega)) | (with_reducible refine Below.setCell ?_ ?_ _; rotate_left 1; focus (first | (simp; done) | (simp; omega) | omega))))).mono ?_; rintro e w' ⟨rfl, n, rfl⟩)
  all_goals
    go_ret
    refine ⟨?_, (by repeat (first | with_reducible exact Below.refl _ _ | with_reducible assumption | with_reducible refine Below.drew ?_ | with_reducible refine below_drewN ?_ _ | (with_reducible refine Below.alloc ?_ ?_ _; rotate_left 1; focus (first | (simp; done) | (simp; omega) | omega)) | (with_reducible refine Below.setCell ?_ ?_ _; rotate_left 1; focus (first | (simp; done) | (simp; omega) | omega))))⟩
    simp [sameB, *]

theorem info_same (x y : Inf) (cs ds : List Value) (b : Zn) (w : World) (hx : kInf.K b w x cs) (hy : kInf.K b w y ds) :
    Calls Try.prog 27 #[.agg cs.toArray, .agg ds.toArray] w fun e w' => e = .returned (.bool (sameB x y)) ∧ Below w.heap.size w w' := by
  obtain ⟨A0, c0, rfl, _, _, _, _, _, hC⟩ := K_inf.1 hx
  obtain ⟨A1, c1, rfl, _, _, _, _, _, hC'⟩ := K_inf.1 hy
  obtain ⟨x0, x1, x2, x4⟩ := x
  obtain ⟨y0, y1, y2, y4⟩ := y
  have hu := Try.underlying32
  dsimp only at hC hC' 
  clear hx hy
  have key := fun W hW => equal_int A0 A1 c0 c1 b x4 y4 W (Kd.C_below hC hW) (Kd.C_below hC' hW)
  have KEY := Lib.hid key
  clear key hC hC'
  go_enter Try.func27, Try.ntmps27
  go_wp2_with (go_at_call 28; refine (KEY.out _ (by repeat (first | with_reducible exact Below.refl _ _ | with_reducible assumption | with_reducible refine Below.drew ?_ | with_reducible refine below_drewN ?_ _ | (with_reducible refine Below.alloc ?_ ?_ _; rotate_left 1; focus (first | (simp; done) | (simp; omega) | omega)) | (with_reducible refine Below.setCell ?_ ?_ _; rotate_left 1; focus (first | (simp; done) | (simp; omega) | omega))))).mono ?_; rintro e w' ⟨rfl, n, rfl⟩)
  all_goals
    go_ret
    refine ⟨?_, (by repeat (first | with_reducible exact Below.refl _ _ | with_reducible assumption | with_reducible refine Below.drew ?_ | with_reducible refine below_drewN ?_ _ | (with_reducible refine Below.alloc ?_ ?_ _; rotate_left 1; focus (first | (simp; done) | (simp; omega) | omega)) | (with_reducible refine Below.setCell ?_ ?_ _; rotate_left 1; focus (first | (simp; done) | (simp; omega) | omega))))⟩
    simp [sameB, *]

theorem eqf_secs (A B : Option Addr) (c d : Nat) (b : Zn) (xs ys : List (List Sec)) (w : World) (hx : (Kd.sl 57 kSec).C 50 b w A xs) (hy : (Kd.sl 57 kSec).C 50 b w B ys) :
    Calls Try.prog 29 #[.slice A xs.length c, .slice B ys.length d, .func (.func 30) #[] #[]] w fun e w' => e = .returned (.bool (sameB xs ys)) ∧ Below w.heap.size w w' := by
  have hbx := hx.1
  have hby := hy.1
  by_cases hl : xs.length = ys.length
  · have hl' : ((xs.length : Int) != (ys.length : Int)) = false := by simp [hl]
    have HL := Lib.hid hl
    clear hl
    go_enter Try.func29, Try.ntmps29
    go_wp2
    go_loopw [7, 8, 9, 17] (fun _ _ _ i wr => ∃ k : Nat, k ≤ xs.length ∧ i = .int .i64 k ∧ Hid (xs.take k = ys.take k) ∧ Below w.heap.size w wr) (fun _ _ _ i _ => xs.length - (intOf i).toNat)
    case atStart => exact ⟨0, Nat.zero_le _, rfl, by simp [Hid], Below.refl _ _⟩
    case round =>
      obtain ⟨k, hk, rfl, ht, hB⟩ := hrel
      have hbs := hB.size
      by_cases hlt : k < xs.length
      · have hlt' : k < ys.length := by rw [← HL.out]; exact hlt
        obtain ⟨g, o, A0, c0, rfl, hg1, hcx, _, _, hC⟩ := C_sl (Kd.C_below hx hB) hlt
        obtain ⟨g', o', A1, c1, rfl, hg2, hcy, _, _, hC'⟩ := C_sl (Kd.C_below hy hB) hlt'
        generalize hX : xs.getD k [] = X at hcx hC
        generalize hY : ys.getD k [] = Y at hcy hC'
        have HX := Lib.hid hX
        have HY := Lib.hid hY
        clear hX hY
        have key := fun W hW => equal_sec A0 A1 c0 c1 b X Y W (Kd.C_below hC hW) (Kd.C_below hC' hW)
        clear hC hC'
        have KEY := Lib.hid key
        clear key
        by_cases hXY : X = Y
        · have hd := sameB_yes hXY
          have HN := Lib.hid hXY
          clear hXY
          go_wp2_with (go_at_call 30; refine (KEY.out _ (by repeat (first | with_reducible exact Below.refl _ _ | with_reducible assumption | with_reducible refine Below.drew ?_ | with_reducible refine below_drewN ?_ _ | (with_reducible refine Below.alloc ?_ ?_ _; rotate_left 1; focus (first | (simp; done) | (simp; omega) | omega)) | (with_reducible refine Below.setCell ?_ ?_ _; rotate_left 1; focus (first | (simp; done) | (simp; omega) | omega))))).mono ?_; rintro e w' ⟨rfl, n, rfl⟩)
          all_goals
            go_roundw
            case rel => exact ⟨k + 1, by omega, by go_num, eq_step _ ht.out hlt hlt' (HX.out.trans (HN.out.trans HY.out.symm)), (by repeat (first | with_reducible exact Below.refl _ _ | with_reducible assumption | with_reducible refine Below.drew ?_ | with_reducible refine below_drewN ?_ _ | (with_reducible refine Below.alloc ?_ ?_ _; rotate_left 1; focus (first | (simp; done) | (simp; omega) | omega)) | (with_reducible refine Below.setCell ?_ ?_ _; rotate_left 1; focus (first | (simp; done) | (simp; omega) | omega))))⟩
            case measure => simp [intOf]; omega
        · have hd := sameB_no hXY
          have HN := Lib.hid hXY
          clear hXY
          go_wp2_with (go_at_call 30; refine (KEY.out _ (by repeat (first | with_reducible exact Below.refl _ _ | with_reducible assumption | with_reducible refine Below.drew ?_ | with_reducible refine below_drewN ?_ _ | (with_reducible refine Below.alloc ?_ ?_ _; rotate_left 1; focus (first | (simp; done) | (simp; omega) | omega)) | (with_reducible refine Below.setCell ?_ ?_ _; rotate_left 1; focus (first | (simp; done) | (simp; omega) | omega))))).mono ?_; rintro e w' ⟨rfl, n, rfl⟩)
          go_ret
          have : xs ≠ ys := eq_not (i := k) _ (by rw [HX.out, HY.out]; exact HN.out)
          exact ⟨by simp [sameB, this], (by repeat (first | with_reducible exact Below.refl _ _ | with_reducible assumption | with_reducible refine Below.drew ?_ | with_reducible refine below_drewN ?_ _ | (with_reducible refine Below.alloc ?_ ?_ _; rotate_left 1; focus (first | (simp; done) | (simp; omega) | omega)) | (with_reducible refine Below.setCell ?_ ?_ _; rotate_left 1; focus (first | (simp; done) | (simp; omega) | omega))))⟩
      · obtain rfl : k = xs.length := by omega
        go_wp2
        go_ret
        have : xs = ys := eq_end HL.out ht.out
        exact ⟨by simp [sameB, this], hB⟩
  · have hl' : ((xs.length : Int) != (ys.length : Int)) = true := by simp; omega
    have hne : xs ≠ ys := fun e => hl (by rw [e])
    have HN := Lib.hid hne
    clear hne hl
    go_enter Try.func29, Try.ntmps29
    go_wp2
    go_ret
    exact ⟨by simp [sameB, HN.out], (by repeat (first | with_reducible exact Below.refl _ _ | with_reducible assumption | with_reducible refine Below.drew ?_ | with_reducible refine below_drewN ?_ _ | (with_reducible refine Below.alloc ?_ ?_ _; rotate_left 1; focus (first | (simp; done) | (simp; omega) | omega)) | (with_reducible refine Below.setCell ?_ ?_ _; rotate_left 1; focus (first | (simp; done) | (simp; omega) | omega))))⟩

theorem eqf_steps (A B : Option Addr) (c d : Nat) (b : Zn) (xs ys : List (List Int)) (w : World) (hx : (Kd.sl 3 I64).C 30 b w A xs) (hy : (Kd.sl 3 I64).C 30 b w B ys) :
    Calls Try.prog 31 #[.slice A xs.length c, .slice B ys.length d, .func (.func 28) #[] #[]] w fun e w' => e = .returned (.bool (sameB xs ys)) ∧ Below w.heap.size w w' := by
  have hbx := hx.1
  have hby := hy.1
  by_cases hl : xs.length = ys.length
  · have hl' : ((xs.length : Int) != (ys.length : Int)) = false := by simp [hl]
    have HL := Lib.hid hl
    clear hl
    go_enter Try.func31, Try.ntmps31
    go_wp2
    go_loopw [7, 8, 9, 17] (fun _ _ _ i wr => ∃ k : Nat, k ≤ xs.length ∧ i = .int .i64 k ∧ Hid (xs.take k = ys.take k) ∧ Below w.heap.size w wr) (fun _ _ _ i _ => xs.length - (intOf i).toNat)
    case atStart => exact ⟨0, Nat.zero_le _, rfl, by simp [Hid], Below.refl _ _⟩
    case round =>
      obtain ⟨k, hk, rfl, ht, hB⟩ := hrel
      have hbs := hB.size
      by_cases hlt : k < xs.length
      · have hlt' : k < ys.length := by rw [← HL.out]; exact hlt
        obtain ⟨g, o, A0, c0, rfl, hg1, hcx, _, _, hC⟩ := C_sl (Kd.C_below hx hB) hlt
        obtain ⟨g', o', A1, c1, rfl, hg2, hcy, _, _, hC'⟩ := C_sl (Kd.C_below hy hB) hlt'
        generalize hX : xs.getD k [] = X at hcx hC
        generalize hY : ys.getD k [] = Y at hcy hC'
        have HX := Lib.hid hX
        have HY := Lib.hid hY
        clear hX hY
        have key := fun W hW => equal_int A0 A1 c0 c1 b X Y W (Kd.C_below hC hW) (Kd.C_below hC' hW)
        clear hC hC'
        have KEY := Lib.hid key
        clear key
        by_cases hXY : X = Y
        · have hd := sameB_yes hXY
          have HN := Lib.hid hXY
          clear hXY
          go_wp2_with (go_at_call 28; refine (KEY.out _ (by repeat (first | with_reducible exact Below.refl _ _ | with_reducible assumption | with_reducible refine Below.drew ?_ | with_reducible refine below_drewN ?_ _ | (with_reducible refine Below.alloc ?_ ?_ _; rotate_left 1; focus (first | (simp; done) | (simp; omega) | omega)) | (with_reducible refine Below.setCell ?_ ?_ _; rotate_left 1; focus (first | (simp; done) | (simp; omega) | omega))))).mono ?_; rintro e w' ⟨rfl, n, rfl⟩)
          all_goals
            go_roundw
            case rel => exact ⟨k + 1, by omega, by go_num, eq_step _ ht.out hlt hlt' (HX.out.trans (HN.out.trans HY.out.symm)), (by repeat (first | with_reducible exact Below.refl _ _ | with_reducible assumption | with_reducible refine Below.drew ?_ | with_reducible refine below_drewN ?_ _ | (with_reducible refine Below.alloc ?_ ?_ _; rotate_left 1; focus (first | (simp; done) | (simp; omega) | omega)) | (with_reducible refine Below.setCell ?_ ?_ _; rotate_left 1; focus (first | (simp; done) | (simp; omega) | omega))))⟩
            case measure => simp [intOf]; omega
        · have hd := sameB_no hXY
          have HN := Lib.hid hXY
          clear hXY
          go_wp2_with (go_at_call 28; refine (KEY.out _ (by repeat (first | with_reducible exact Below.refl _ _ | with_reducible assumption | with_reducible refine Below.drew ?_ | with_reducible refine below_drewN ?_ _ | (with_reducible refine Below.alloc ?_ ?_ _; rotate_left 1; focus (first | (simp; done) | (simp; omega) | omega)) | (with_reducible refine Below.setCell ?_ ?_ _; rotate_left 1; focus (first | (simp; done) | (simp; omega) | omega))))).mono ?_; rintro e w' ⟨rfl, n, rfl⟩)
          go_ret
          have : xs ≠ ys := eq_not (i := k) _ (by rw [HX.out, HY.out]; exact HN.out)
          exact ⟨by simp [sameB, this], (by repeat (first | with_reducible exact Below.refl _ _ | with_reducible assumption | with_reducible refine Below.drew ?_ | with_reducible refine below_drewN ?_ _ | (with_reducible refine Below.alloc ?_ ?_ _; rotate_left 1; focus (first | (simp; done) | (simp; omega) | omega)) | (with_reducible refine Below.setCell ?_ ?_ _; rotate_left 1; focus (first | (simp; done) | (simp; omega) | omega))))⟩
      · obtain rfl : k = xs.length := by omega
        go_wp2
        go_ret
        have : xs = ys := eq_end HL.out ht.out
        exact ⟨by simp [sameB, this], hB⟩
  · have hl' : ((xs.length : Int) != (ys.length : Int)) = true := by simp; omega
    have hne : xs ≠ ys := fun e => hl (by rw [e])
    have HN := Lib.hid hne
    clear hne hl
    go_enter Try.func31, Try.ntmps31
    go_wp2
    go_ret
    exact ⟨by simp [sameB, HN.out], (by repeat (first | with_reducible exact Below.refl _ _ | with_reducible assumption | with_reducible refine Below.drew ?_ | with_reducible refine below_drewN ?_ _ | (with_reducible refine Below.alloc ?_ ?_ _; rotate_left 1; focus (first | (simp; done) | (simp; omega) | omega)) | (with_reducible refine Below.setCell ?_ ?_ _; rotate_left 1; focus (first | (simp; done) | (simp; omega) | omega))))⟩

theorem eqf_bands (A B : Option Addr) (c d : Nat) (b : Zn) (xs ys : List (List Bool)) (w : World) (hx : (Kd.sl 4 Kd.bool).C 38 b w A xs) (hy : (Kd.sl 4 Kd.bool).C 38 b w B ys) :
    Calls Try.prog 18 #[.slice A xs.length c, .slice B ys.length d, .func (.func 19) #[] #[]] w fun e w' => e = .returned (.bool (sameB xs ys)) ∧ Below w.heap.size w w' := by
  have hbx := hx.1
  have hby := hy.1
  by_cases hl : xs.length = ys.length
  · have hl' : ((xs.length : Int) != (ys.length : Int)) = false := by simp [hl]
    have HL := Lib.hid hl
    clear hl
    go_enter Try.func18, Try.ntmps18
    go_wp2
    go_loopw [7, 8, 9, 17] (fun _ _ _ i wr => ∃ k : Nat, k ≤ xs.length ∧ i = .int .i64 k ∧ Hid (xs.take k = ys.take k) ∧ Below w.heap.size w wr) (fun _ _ _ i _ => xs.length - (intOf i).toNat)
    case atStart => exact ⟨0, Nat.zero_le _, rfl, by simp [Hid], Below.refl _ _⟩
    case round =>
      obtain ⟨k, hk, rfl, ht, hB⟩ := hrel
      have hbs := hB.size
      by_cases hlt : k < xs.length
      · have hlt' : k < ys.length := by rw [← HL.out]; exact hlt
        obtain ⟨g, o, A0, c0, rfl, hg1, hcx, _, _, hC⟩ := C_sl (Kd.C_below hx hB) hlt
        obtain ⟨g', o', A1, c1, rfl, hg2, hcy, _, _, hC'⟩ := C_sl (Kd.C_below hy hB) hlt'
        generalize hX : xs.getD k [] = X at hcx hC
        generalize hY : ys.getD k [] = Y at hcy hC'
        have HX := Lib.hid hX
        have HY := Lib.hid hY
        clear hX hY
        have key := fun W hW => equal_bool A0 A1 c0 c1 b X Y W (Kd.C_below hC hW) (Kd.C_below hC' hW)
        clear hC hC'
        have KEY := Lib.hid key
        clear key
        by_cases hXY : X = Y
        · have hd := sameB_yes hXY
          have HN := Lib.hid hXY
          clear hXY
          go_wp2_with (go_at_call 19; refine (KEY.out _ (by repeat (first | with_reducible exact Below.refl _ _ | with_reducible assumption | with_reducible refine Below.drew ?_ | with_reducible refine below_drewN ?_ _ | (with_reducible refine Below.alloc ?_ ?_ _; rotate_left 1; focus (first | (simp; done) | (simp; omega) | omega)) | (with_reducible refine Below.setCell ?_ ?_ _; rotate_left 1; focus (first | (simp; done) | (simp; omega) | omega))))).mono ?_; rintro e w' ⟨rfl, n, rfl⟩)
          all_goals
            go_roundw
            case rel => exact ⟨k + 1, by omega, by go_num, eq_step _ ht.out hlt hlt' (HX.out.trans (HN.out.trans HY.out.symm)), (by repeat (first | with_reducible exact Below.refl _ _ | with_reducible assumption | with_reducible refine Below.drew ?_ | with_reducible refine below_drewN ?_ _ | (with_reducible refine Below.alloc ?_ ?_ _; rotate_left 1; focus (first | (simp; done) | (simp; omega) | omega)) | (with_reducible refine Below.setCell ?_ ?_ _; rotate_left 1; focus (first | (simp; done) | (simp; omega) | omega))))⟩
            case measure => simp [intOf]; omega
        · have hd := sameB_no hXY
          have HN := Lib.hid hXY
          clear hXY
          go_wp2_with (go_at_call 19; refine (KEY.out _ (by repeat (first | with_reducible exact Below.refl _ _ | with_reducible assumption | with_reducible refine Below.drew ?_ | with_reducible refine below_drewN ?_ _ | (with_reducible refine Below.alloc ?_ ?_ _; rotate_left 1; focus (first | (simp; done) | (simp; omega) | omega)) | (with_reducible refine Below.setCell ?_ ?_ _; rotate_left 1; focus (first | (simp; done) | (simp; omega) | omega))))).mono ?_; rintro e w' ⟨rfl, n, rfl⟩)
          go_ret
          have : xs ≠ ys := eq_not (i := k) _ (by rw [HX.out, HY.out]; exact HN.out)
          exact ⟨by simp [sameB, this], (by repeat (first | with_reducible exact Below.refl _ _ | with_reducible assumption | with_reducible refine Below.drew ?_ | with_reducible refine below_drewN ?_ _ | (with_reducible refine Below.alloc ?_ ?_ _; rotate_left 1; focus (first | (simp; done) | (simp; omega) | omega)) | (with_reducible refine Below.setCell ?_ ?_ _; rotate_left 1; focus (first | (simp; done) | (simp; omega) | omega))))⟩
      · obtain rfl : k = xs.length := by omega
        go_wp2
        go_ret
        have : xs = ys := eq_end HL.out ht.out
        exact ⟨by simp [sameB, this], hB⟩
  · have hl' : ((xs.length : Int) != (ys.length : Int)) = true := by simp; omega
    have hne : xs ≠ ys := fun e => hl (by rw [e])
    have HN := Lib.hid hne
    clear hne hl
    go_enter Try.func18, Try.ntmps18
    go_wp2
    go_ret
    exact ⟨by simp [sameB, HN.out], (by repeat (first | with_reducible exact Below.refl _ _ | with_reducible assumption | with_reducible refine Below.drew ?_ | with_reducible refine below_drewN ?_ _ | (with_reducible refine Below.alloc ?_ ?_ _; rotate_left 1; focus (first | (simp; done) | (simp; omega) | omega)) | (with_reducible refine Below.setCell ?_ ?_ _; rotate_left 1; focus (first | (simp; done) | (simp; omega) | omega))))⟩

theorem eqf_filts (A B : Option Addr) (c d : Nat) (b : Zn) (xs ys : List Filt) (w : World) (hx : (kFilt).C 53 b w A xs) (hy : (kFilt).C 53 b w B ys) :
    Calls Try.prog 34 #[.slice A xs.length c, .slice B ys.length d, .func (.func 35) #[] #[]] w fun e w' => e = .returned (.bool (sameB xs ys)) ∧ Below w.heap.size w w' := by
  have hbx := hx.1
  have hby := hy.1
  have hu := Try.underlying53
  by_cases hl : xs.length = ys.length
  · have hl' : ((xs.length : Int) != (ys.length : Int)) = false := by simp [hl]
    have HL := Lib.hid hl
    clear hl
    go_enter Try.func34, Try.ntmps34
    go_wp2
    go_loopw [7, 8, 9, 17] (fun _ _ _ i wr => ∃ k : Nat, k ≤ xs.length ∧ i = .int .i64 k ∧ Hid (xs.take k = ys.take k) ∧ Below w.heap.size w wr) (fun _ _ _ i _ => xs.length - (intOf i).toNat)
    case atStart => exact ⟨0, Nat.zero_le _, rfl, by simp [Hid], Below.refl _ _⟩
    case round =>
      obtain ⟨k, hk, rfl, ht, hB⟩ := hrel
      have hbs := hB.size
      by_cases hlt : k < xs.length
      · have hlt' : k < ys.length := by rw [← HL.out]; exact hlt
        obtain ⟨g, o, cs, rfl, hg1, hK, hcx⟩ := Kd.C_at (Kd.C_below hx hB) default hlt
        obtain ⟨g', o', cs', rfl, hg2, hK', hcy⟩ := Kd.C_at (Kd.C_below hy hB) default hlt'
        generalize hX : xs.getD k default = X at hK
        generalize hY : ys.getD k default = Y at hK'
        have HX := Lib.hid hX
        have HY := Lib.hid hY
        clear hX hY
        have key := fun W hW => alike X Y _ _ b W (Kd.K_below hK hW) (Kd.K_below hK' hW)
        obtain ⟨A0, c0, rfl, _, _, _, _, _⟩ := K_filt.1 hK
        obtain ⟨A1, c0, rfl, _, _, _, _, _⟩ := K_filt.1 hK'
        have cx0 := hcx 0 _ rfl
        have cy0 := hcy 0 _ rfl
        have cx1 := hcx 1 _ rfl
        have cy1 := hcy 1 _ rfl
        have cx2 := hcx 2 _ rfl
        have cy2 := hcy 2 _ rfl
        have cx3 := hcx 3 _ rfl
        have cy3 := hcy 3 _ rfl
        have cx4 := hcx 4 _ rfl
        have cy4 := hcy 4 _ rfl
        simp only [show (kFilt).sz = 5 from rfl, Nat.add_zero, ← Nat.add_assoc] at cx0 cy0 cx1 cy1 cx2 cy2 cx3 cy3 cx4 cy4

        clear hK hK' hcx hcy
        have KEY := Lib.hid key
        clear key
        by_cases hXY : X = Y
        · have hd := sameB_yes hXY
          have HN := Lib.hid hXY
          clear hXY
          go_wp2_with (go_at_call 35; refine (KEY.out _ (by repeat (first | with_reducible exact Below.refl _ _ | with_reducible assumption | with_reducible refine Below.drew ?_ | with_reducible refine below_drewN ?_ _ | (with_reducible refine Below.alloc ?_ ?_ _; rotate_left 1; focus (first | (simp; done) | (simp; omega) | omega)) | (with_reducible refine Below.setCell ?_ ?_ _; rotate_left 1; focus (first | (simp; done) | (simp; omega) | omega))))).mono ?_; rintro e w' ⟨rfl, hB2⟩; have hB3 := Below.trans (a := w) (B := w.heap.size) (by repeat (first | with_reducible exact Below.refl _ _ | with_reducible assumption | with_reducible refine Below.drew ?_ | with_reducible refine below_drewN ?_ _ | (with_reducible refine Below.alloc ?_ ?_ _; rotate_left 1; focus (first | (simp; done) | (simp; omega) | omega)) | (with_reducible refine Below.setCell ?_ ?_ _; rotate_left 1; focus (first | (simp; done) | (simp; omega) | omega)))) (hB2.mono (by first | (simp; done) | (simp; omega) | omega)))
          all_goals
            go_roundw
            case rel => exact ⟨k + 1, by omega, by go_num, eq_step _ ht.out hlt hlt' (HX.out.trans (HN.out.trans HY.out.symm)), (by repeat (first | with_reducible exact Below.refl _ _ | with_reducible assumption | with_reducible refine Below.drew ?_ | with_reducible refine below_drewN ?_ _ | (with_reducible refine Below.alloc ?_ ?_ _; rotate_left 1; focus (first | (simp; done) | (simp; omega) | omega)) | (with_reducible refine Below.setCell ?_ ?_ _; rotate_left 1; focus (first | (simp; done) | (simp; omega) | omega))))⟩
            case measure => simp [intOf]; omega
        · have hd := sameB_no hXY
          have HN := Lib.hid hXY
          clear hXY
          go_wp2_with (go_at_call 35; refine (KEY.out _ (by repeat (first | with_reducible exact Below.refl _ _ | with_reducible assumption | with_reducible refine Below.drew ?_ | with_reducible refine below_drewN ?_ _ | (with_reducible refine Below.alloc ?_ ?_ _; rotate_left 1; focus (first | (simp; done) | (simp; omega) | omega)) | (with_reducible refine Below.setCell ?_ ?_ _; rotate_left 1; focus (first | (simp; done) | (simp; omega) | omega))))).mono ?_; rintro e w' ⟨rfl, hB2⟩; have hB3 := Below.trans (a := w) (B := w.heap.size) (by repeat (first | with_reducible exact Below.refl _ _ | with_reducible assumption | with_reducible refine Below.drew ?_ | with_reducible refine below_drewN ?_ _ | (with_reducible refine Below.alloc ?_ ?_ _; rotate_left 1; focus (first | (simp; done) | (simp; omega) | omega)) | (with_reducible refine Below.setCell ?_ ?_ _; rotate_left 1; focus (first | (simp; done) | (simp; omega) | omega)))) (hB2.mono (by first | (simp; done) | (simp; omega) | omega)))
          go_ret
          have : xs ≠ ys := eq_not (i := k) _ (by rw [HX.out, HY.out]; exact HN.out)
          exact ⟨by simp [sameB, this], (by repeat (first | with_reducible exact Below.refl _ _ | with_reducible assumption | with_reducible refine Below.drew ?_ | with_reducible refine below_drewN ?_ _ | (with_reducible refine Below.alloc ?_ ?_ _; rotate_left 1; focus (first | (simp; done) | (simp; omega) | omega)) | (with_reducible refine Below.setCell ?_ ?_ _; rotate_left 1; focus (first | (simp; done) | (simp; omega) | omega))))⟩
      · obtain rfl : k = xs.length := by omega
        go_wp2
        go_ret
        have : xs = ys := eq_end HL.out ht.out
        exact ⟨by simp [sameB, this], hB⟩
  · have hl' : ((xs.length : Int) != (ys.length : Int)) = true := by simp; omega
    have hne : xs ≠ ys := fun e => hl (by rw [e])
    have HN := Lib.hid hne
    clear hne hl
    go_enter Try.func34, Try.ntmps34
    go_wp2
    go_ret
    exact ⟨by simp [sameB, HN.out], (by repeat (first | with_reducible exact Below.refl _ _ | with_reducible assumption | with_reducible refine Below.drew ?_ | with_reducible refine below_drewN ?_ _ | (with_reducible refine Below.alloc ?_ ?_ _; rotate_left 1; focus (first | (simp; done) | (simp; omega) | omega)) | (with_reducible refine Below.setCell ?_ ?_ _; rotate_left 1; focus (first | (simp; done) | (simp; omega) | omega))))⟩

theorem same_w (A B : Option Addr) (c d : Nat) (b : Zn) (xs ys : List Filt) (w : World) (hx : kFilt.C 53 b w A xs) (hy : kFilt.C 53 b w B ys) :
    Calls Try.prog 33 #[.slice A xs.length c, .slice B ys.length d] w fun e w' => e = .returned (.bool (sameB xs ys)) ∧ Below w.heap.size w w' := by
  have key := fun W hW => eqf_filts A B c d b xs ys W (Kd.C_below hx hW) (Kd.C_below hy hW)
  have KEY := Lib.hid key
  have hbx := hx.1
  have hby := hy.1
  clear key hx hy
  go_enter Try.func33, Try.ntmps33
  go_wp2_with (go_at_call 34; refine (KEY.out _ (by repeat (first | with_reducible exact Below.refl _ _ | with_reducible assumption | with_reducible refine Below.drew ?_ | with_reducible refine below_drewN ?_ _ | (with_reducible refine Below.alloc ?_ ?_ _; rotate_left 1; focus (first | (simp; done) | (simp; omega) | omega)) | (with_reducible refine Below.setCell ?_ ?_ _; rotate_left 1; focus (first | (simp; done) | (simp; omega) | omega))))).mono ?_; rintro e w' ⟨rfl, hB2⟩)
  go_ret
  exact ⟨rfl, (by repeat (first | with_reducible exact Below.refl _ _ | with_reducible assumption | with_reducible refine Below.drew ?_ | with_reducible refine below_drewN ?_ _ | (with_reducible refine Below.alloc ?_ ?_ _; rotate_left 1; focus (first | (simp; done) | (simp; omega) | omega)) | (with_reducible refine Below.setCell ?_ ?_ _; rotate_left 1; focus (first | (simp; done) | (simp; omega) | omega))))⟩

theorem eqf_tns (A B : Option Addr) (c d : Nat) (b : Zn) (xs ys : List (List Filt)) (w : World) (hx : (Kd.sl 53 kFilt).C 51 b w A xs) (hy : (Kd.sl 53 kFilt).C 51 b w B ys) :
    Calls Try.prog 32 #[.slice A xs.length c, .slice B ys.length d, .func (.func 33) #[] #[]] w fun e w' => e = .returned (.bool (sameB xs ys)) ∧ Below w.heap.size w w' := by
  have hbx := hx.1
  have hby := hy.1
  by_cases hl : xs.length = ys.length
  · have hl' : ((xs.length : Int) != (ys.length : Int)) = false := by simp [hl]
    have HL := Lib.hid hl
    clear hl
    go_enter Try.func32, Try.ntmps32
    go_wp2
    go_loopw [7, 8, 9, 17] (fun _ _ _ i wr => ∃ k : Nat, k ≤ xs.length ∧ i = .int .i64 k ∧ Hid (xs.take k = ys.take k) ∧ Below w.heap.size w wr) (fun _ _ _ i _ => xs.length - (intOf i).toNat)
    case atStart => exact ⟨0, Nat.zero_le _, rfl, by simp [Hid], Below.refl _ _⟩
    case round =>
      obtain ⟨k, hk, rfl, ht, hB⟩ := hrel
      have hbs := hB.size
      by_cases hlt : k < xs.length
      · have hlt' : k < ys.length := by rw [← HL.out]; exact hlt
        obtain ⟨g, o, A0, c0, rfl, hg1, hcx, _, _, hC⟩ := C_sl (Kd.C_below hx hB) hlt
        obtain ⟨g', o', A1, c1, rfl, hg2, hcy, _, _, hC'⟩ := C_sl (Kd.C_below hy hB) hlt'
        generalize hX : xs.getD k [] = X at hcx hC
        generalize hY : ys.getD k [] = Y at hcy hC'
        have HX := Lib.hid hX
        have HY := Lib.hid hY
        clear hX hY
        have key := fun W hW => same_w A0 A1 c0 c1 b X Y W (Kd.C_below hC hW) (Kd.C_below hC' hW)
        clear hC hC'
        have KEY := Lib.hid key
        clear key
        by_cases hXY : X = Y
        · have hd := sameB_yes hXY
          have HN := Lib.hid hXY
          clear hXY
          go_wp2_with (go_at_call 33; refine (KEY.out _ (by repeat (first | with_reducible exact Below.refl _ _ | with_reducible assumption | with_reducible refine Below.drew ?_ | with_reducible refine below_drewN ?_ _ | (with_reducible refine Below.alloc ?_ ?_ _; rotate_left 1; focus (first | (simp; done) | (simp; omega) | omega)) | (with_reducible refine Below.setCell ?_ ?_ _; rotate_left 1; focus (first | (simp; done) | (simp; omega) | omega))))).mono ?_; rintro e w' ⟨rfl, hB2⟩; have hB3 := hB.trans (hB2.mono hbs))
          all_goals
            go_roundw
            case rel => exact ⟨k + 1, by omega, by go_num, eq_step _ ht.out hlt hlt' (HX.out.trans (HN.out.trans HY.out.symm)), (by repeat (first | with_reducible exact Below.refl _ _ | with_reducible assumption | with_reducible refine Below.drew ?_ | with_reducible refine below_drewN ?_ _ | (with_reducible refine Below.alloc ?_ ?_ _; rotate_left 1; focus (first | (simp; done) | (simp; omega) | omega)) | (with_reducible refine Below.setCell ?_ ?_ _; rotate_left 1; focus (first | (simp; done) | (simp; omega) | omega))))⟩
            case measure => simp [intOf]; omega
        · have hd := sameB_no hXY
          have HN := Lib.hid hXY
          clear hXY
          go_wp2_with (go_at_call 33; refine (KEY.out _ (by repeat (first | with_reducible exact Below.refl _ _ | with_reducible assumption | with_reducible refine Below.drew ?_ | with_reducible refine below_drewN ?_ _ | (with_reducible refine Below.alloc ?_ ?_ _; rotate_left 1; focus (first | (simp; done) | (simp; omega) | omega)) | (with_reducible refine Below.setCell ?_ ?_ _; rotate_left 1; focus (first | (simp; done) | (simp; omega) | omega))))).mono ?_; rintro e w' ⟨rfl, hB2⟩; have hB3 := hB.trans (hB2.mono hbs))
          go_ret
          have : xs ≠ ys := eq_not (i := k) _ (by rw [HX.out, HY.out]; exact HN.out)
          exact ⟨by simp [sameB, this], (by repeat (first | with_reducible exact Below.refl _ _ | with_reducible assumption | with_reducible refine Below.drew ?_ | with_reducible refine below_drewN ?_ _ | (with_reducible refine Below.alloc ?_ ?_ _; rotate_left 1; focus (first | (simp; done) | (simp; omega) | omega)) | (with_reducible refine Below.setCell ?_ ?_ _; rotate_left 1; focus (first | (simp; done) | (simp; omega) | omega))))⟩
      · obtain rfl : k = xs.length := by omega
        go_wp2
        go_ret
        have : xs = ys := eq_end HL.out ht.out
        exact ⟨by simp [sameB, this], hB⟩
  · have hl' : ((xs.length : Int) != (ys.length : Int)) = true := by simp; omega
    have hne : xs ≠ ys := fun e => hl (by rw [e])
    have HN := Lib.hid hne
    clear hne hl
    go_enter Try.func32, Try.ntmps32
    go_wp2
    go_ret
    exact ⟨by simp [sameB, HN.out], (by repeat (first | with_reducible exact Below.refl _ _ | with_reducible assumption | with_reducible refine Below.drew ?_ | with_reducible refine below_drewN ?_ _ | (with_reducible refine Below.alloc ?_ ?_ _; rotate_left 1; focus (first | (simp; done) | (simp; omega) | omega)) | (with_reducible refine Below.setCell ?_ ?_ _; rotate_left 1; focus (first | (simp; done) | (simp; omega) | omega))))⟩

set_option maxRecDepth 100000 in
theorem lane_same (x y : Chn) (cs ds : List Value) (b : Zn) (w : World) (hx : kChn.K b w x cs) (hy : kChn.K b w y ds) :
    Calls Try.prog 17 #[.agg cs.toArray, .agg ds.toArray] w fun e w' => e = .returned (.bool (sameB x y)) ∧ Below w.heap.size w w' := by
  obtain ⟨A0, c0, A1, c1, A2, c2, A3, c3, A4, c4, rfl, _, ⟨r1, r2, r3, r4, r5, hG⟩, ⟨_, _, hS⟩, ⟨_, _, hP⟩, ⟨_, _, hT⟩, ⟨_, _, hL⟩⟩ := K_chn.1 hx
  obtain ⟨B0, d0, B1, d1, B2, d2, B3, d3, B4, d4, rfl, _, ⟨q1, q2, q3, q4, q5, hG'⟩, ⟨_, _, hS'⟩, ⟨_, _, hP'⟩, ⟨_, _, hT'⟩, ⟨_, _, hL'⟩⟩ := K_chn.1 hy
  have hu := Try.underlying37
  have hu2 := Try.underlying32
  have kI := fun W hW => info_same x.info y.info _ _ b W (K_inf.2 ⟨A0, c0, rfl, r1, r2, r3, r4, r5, Kd.C_below hG hW⟩) (K_inf.2 ⟨B0, d0, rfl, q1, q2, q3, q4, q5, Kd.C_below hG' hW⟩)
  have kL := fun W hW => equal_int A4 B4 c4 d4 b x.lines y.lines W (Kd.C_below hL hW) (Kd.C_below hL' hW)
  have kS := fun W hW => eqf_secs A1 B1 c1 d1 b x.sections y.sections W (Kd.C_below hS hW) (Kd.C_below hS' hW)
  have kP := fun W hW => eqf_steps A2 B2 c2 d2 b x.steps y.steps W (Kd.C_below hP hW) (Kd.C_below hP' hW)
  have kT := fun W hW => eqf_tns A3 B3 c3 d3 b x.tns y.tns W (Kd.C_below hT hW) (Kd.C_below hT' hW)
  have hfin : sameB x y = (decide (x.gain = y.gain) && sameB x.info y.info && sameB x.lines y.lines && (sameB x.sections y.sections && sameB x.steps y.steps) && sameB x.tns y.tns) := by
    obtain ⟨a1, a2, a3, a4, a5, a6⟩ := x; obtain ⟨b1, b2, b3, b4, b5, b6⟩ := y; simp only [sameB, Chn.mk.injEq, Bool.decide_and]; cases decide (a1 = b1) <;> cases decide (a2 = b2) <;> cases decide (a3 = b3) <;> cases decide (a4 = b4) <;> cases decide (a5 = b5) <;> cases decide (a6 = b6) <;> rfl
  obtain ⟨x0, x1, x2, x3, x4, x5⟩ := x
  obtain ⟨y0, y1, y2, y3, y4, y5⟩ := y
  obtain ⟨x10, x11, x12, x13⟩ := x1
  obtain ⟨y10, y11, y12, y13⟩ := y1
  dsimp only at kI kL kS kP kT hfin
  have KI := Lib.hid kI
  have KL := Lib.hid kL
  have KS := Lib.hid kS
  have KP := Lib.hid kP
  have KT := Lib.hid kT
  have HF := Lib.hid hfin
  clear kI kL kS kP kT hfin hx hy hG hG' hS hS' hP hP' hT hT' hL hL' r1 r2 r3 r4 r5 q1 q2 q3 q4 q5
  go_enter Try.func17, Try.ntmps17
  go_wp2_with (first
   | (go_at_call 27; refine (KI.out _ (by repeat (first | with_reducible exact Below.refl _ _ | with_reducible assumption | with_reducible refine Below.drew ?_ | with_reducible refine below_drewN ?_ _ | (with_reducible refine Below.alloc ?_ ?_ _; rotate_left 1; focus (first | (simp; done) | (simp; omega) | omega)) | (with_reducible refine Below.setCell ?_ ?_ _; rotate_left 1; focus (first | (simp; done) | (simp; omega) | omega))))).mono ?_; rintro e w' ⟨rfl, hB1⟩; obtain ⟨hc, hf⟩ := bcell hB1; have hz := hB1.size; (try simp at hz); have hz0 : w.heap.size < w'.heap.size := (by omega); have hz1 : w.heap.size + 1 < w'.heap.size := (by omega); have hB0 := below_then (w := w) (by repeat (first | with_reducible exact Below.refl _ _ | with_reducible assumption | with_reducible refine Below.drew ?_ | with_reducible refine below_drewN ?_ _ | (with_reducible refine Below.alloc ?_ ?_ _; rotate_left 1; focus (first | (simp; done) | (simp; omega) | omega)) | (with_reducible refine Below.setCell ?_ ?_ _; rotate_left 1; focus (first | (simp; done) | (simp; omega) | omega)))) hB1; clear hB1)
   | (go_at_call 28; refine (KL.out _ (by repeat (first | with_reducible exact Below.refl _ _ | with_reducible assumption | with_reducible refine Below.drew ?_ | with_reducible refine below_drewN ?_ _ | (with_reducible refine Below.alloc ?_ ?_ _; rotate_left 1; focus (first | (simp; done) | (simp; omega) | omega)) | (with_reducible refine Below.setCell ?_ ?_ _; rotate_left 1; focus (first | (simp; done) | (simp; omega) | omega))))).mono ?_; rintro e w' ⟨rfl, hq⟩; have hB1 := below_of_drawn hq; clear hq; obtain ⟨hc, hf⟩ := bcell hB1; have hz := hB1.size; (try simp at hz); have hz0 : w.heap.size < w'.heap.size := (by omega); have hz1 : w.heap.size + 1 < w'.heap.size := (by omega); have hB0 := below_then (w := w) (by repeat (first | with_reducible exact Below.refl _ _ | with_reducible assumption | with_reducible refine Below.drew ?_ | with_reducible refine below_drewN ?_ _ | (with_reducible refine Below.alloc ?_ ?_ _; rotate_left 1; focus (first | (simp; done) | (simp; omega) | omega)) | (with_reducible refine Below.setCell ?_ ?_ _; rotate_left 1; focus (first | (simp; done) | (simp; omega) | omega)))) hB1; clear hB1)
   | (go_at_call 29; refine (KS.out _ (by repeat (first | with_reducible exact Below.refl _ _ | with_reducible assumption | with_reducible refine Below.drew ?_ | with_reducible refine below_drewN ?_ _ | (with_reducible refine Below.alloc ?_ ?_ _; rotate_left 1; focus (first | (simp; done) | (simp; omega) | omega)) | (with_reducible refine Below.setCell ?_ ?_ _; rotate_left 1; focus (first | (simp; done) | (simp; omega) | omega))))).mono ?_; rintro e w' ⟨rfl, hB1⟩; obtain ⟨hc, hf⟩ := bcell hB1; have hz := hB1.size; (try simp at hz); have hz0 : w.heap.size < w'.heap.size := (by omega); have hz1 : w.heap.size + 1 < w'.heap.size := (by omega); have hB0 := below_then (w := w) (by repeat (first | with_reducible exact Below.refl _ _ | with_reducible assumption | with_reducible refine Below.drew ?_ | with_reducible refine below_drewN ?_ _ | (with_reducible refine Below.alloc ?_ ?_ _; rotate_left 1; focus (first | (simp; done) | (simp; omega) | omega)) | (with_reducible refine Below.setCell ?_ ?_ _; rotate_left 1; focus (first | (simp; done) | (simp; omega) | omega)))) hB1; clear hB1)
   | (go_at_call 31; refine (KP.out _ (by repeat (first | with_reducible exact Below.refl _ _ | with_reducible assumption | with_reducible refine Below.drew ?_ | with_reducible refine below_drewN ?_ _ | (with_reducible refine Below.alloc ?_ ?_ _; rotate_left 1; focus (first | (simp; done) | (simp; omega) | omega)) | (with_reducible refine Below.setCell ?_ ?_ _; rotate_left 1; focus (first | (simp; done) | (simp; omega) | omega))))).mono ?_; rintro e w' ⟨rfl, hB1⟩; obtain ⟨hc, hf⟩ := bcell hB1; have hz := hB1.size; (try simp at hz); have hz0 : w.heap.size < w'.heap.size := (by omega); have hz1 : w.heap.size + 1 < w'.heap.size := (by omega); have hB0 := below_then (w := w) (by repeat (first | with_reducible exact Below.refl _ _ | with_reducible assumption | with_reducible refine Below.drew ?_ | with_reducible refine below_drewN ?_ _ | (with_reducible refine Below.alloc ?_ ?_ _; rotate_left 1; focus (first | (simp; done) | (simp; omega) | omega)) | (with_reducible refine Below.setCell ?_ ?_ _; rotate_left 1; focus (first | (simp; done) | (simp; omega) | omega)))) hB1; clear hB1)
   | (go_at_call 32; refine (KT.out _ (by repeat (first | with_reducible exact Below.refl _ _ | with_reducible assumption | with_reducible refine Below.drew ?_ | with_reducible refine below_drewN ?_ _ | (with_reducible refine Below.alloc ?_ ?_ _; rotate_left 1; focus (first | (simp; done) | (simp; omega) | omega)) | (with_reducible refine Below.setCell ?_ ?_ _; rotate_left 1; focus (first | (simp; done) | (simp; omega) | omega))))).mono ?_; rintro e w' ⟨rfl, hB1⟩; obtain ⟨hc, hf⟩ := bcell hB1; have hz := hB1.size; (try simp at hz); have hz0 : w.heap.size < w'.heap.size := (by omega); have hz1 : w.heap.size + 1 < w'.heap.size := (by omega); have hB0 := below_then (w := w) (by repeat (first | with_reducible exact Below.refl _ _ | with_reducible assumption | with_reducible refine Below.drew ?_ | with_reducible refine below_drewN ?_ _ | (with_reducible refine Below.alloc ?_ ?_ _; rotate_left 1; focus (first | (simp; done) | (simp; omega) | omega)) | (with_reducible refine Below.setCell ?_ ?_ _; rotate_left 1; focus (first | (simp; done) | (simp; omega) | omega)))) hB1; clear hB1))

  all_goals
    go_ret
    refine ⟨?_, (by repeat (first | with_reducible exact Below.refl _ _ | with_reducible assumption | with_reducible refine Below.drew ?_ | with_reducible refine below_drewN ?_ _ | (with_reducible refine Below.alloc ?_ ?_ _; rotate_left 1; focus (first | (simp; done) | (simp; omega) | omega)) | (with_reducible refine Below.setCell ?_ ?_ _; rotate_left 1; focus (first | (simp; done) | (simp; omega) | omega))))⟩
    rw [HF.out]
    simp [*]

theorem eqf_chans (A B : Option Addr) (c d : Nat) (b : Zn) (xs ys : List Chn) (w : World) (hx : (kChn).C 37 b w A xs) (hy : (kChn).C 37 b w B ys) :
    Calls Try.prog 16 #[.slice A xs.length c, .slice B ys.length d, .func (.func 17) #[] #[]] w fun e w' => e = .returned (.bool (sameB xs ys)) ∧ Below w.heap.size w w' := by
  have hbx := hx.1
  have hby := hy.1
  have hu := Try.underlying37
  by_cases hl : xs.length = ys.length
  · have hl' : ((xs.length : Int) != (ys.length : Int)) = false := by simp [hl]
    have HL := Lib.hid hl
    clear hl
    go_enter Try.func16, Try.ntmps16
    go_wp2
    go_loopw [7, 8, 9, 17] (fun _ _ _ i wr => ∃ k : Nat, k ≤ xs.length ∧ i = .int .i64 k ∧ Hid (xs.take k = ys.take k) ∧ Below w.heap.size w wr) (fun _ _ _ i _ => xs.length - (intOf i).toNat)
    case atStart => exact ⟨0, Nat.zero_le _, rfl, by simp [Hid], Below.refl _ _⟩
    case round =>
      obtain ⟨k, hk, rfl, ht, hB⟩ := hrel
      have hbs := hB.size
      by_cases hlt : k < xs.length
      · have hlt' : k < ys.length := by rw [← HL.out]; exact hlt
        obtain ⟨g, o, cs, rfl, hg1, hK, hcx⟩ := Kd.C_at (Kd.C_below hx hB) default hlt
        obtain ⟨g', o', cs', rfl, hg2, hK', hcy⟩ := Kd.C_at (Kd.C_below hy hB) default hlt'
        generalize hX : xs.getD k default = X at hK
        generalize hY : ys.getD k default = Y at hK'
        have HX := Lib.hid hX
        have HY := Lib.hid hY
        clear hX hY
        have key := fun W hW => lane_same X Y _ _ b W (Kd.K_below hK hW) (Kd.K_below hK' hW)
        obtain ⟨A0, c0, A1, c1, A2, c2, A3, c3, A4, c4, rfl, _, _, _, _, _, _⟩ := K_chn.1 hK
        obtain ⟨B0, c0, B1, c1, B2, c2, B3, c3, B4, c4, rfl, _, _, _, _, _, _⟩ := K_chn.1 hK'
        have cx0 := hcx 0 _ rfl
        have cy0 := hcy 0 _ rfl
        have cx1 := hcx 1 _ rfl
        have cy1 := hcy 1 _ rfl
        have cx2 := hcx 2 _ rfl
        have cy2 := hcy 2 _ rfl
        have cx3 := hcx 3 _ rfl
        have cy3 := hcy 3 _ rfl
        have cx4 := hcx 4 _ rfl
        have cy4 := hcy 4 _ rfl
        have cx5 := hcx 5 _ rfl
        have cy5 := hcy 5 _ rfl
        have cx6 := hcx 6 _ rfl
        have cy6 := hcy 6 _ rfl
        have cx7 := hcx 7 _ rfl
        have cy7 := hcy 7 _ rfl
        have cx8 := hcx 8 _ rfl
        have cy8 := hcy 8 _ rfl
        simp only [show (kChn).sz = 9 from rfl, Nat.add_zero, ← Nat.add_assoc] at cx0 cy0 cx1 cy1 cx2 cy2 cx3 cy3 cx4 cy4 cx5 cy5 cx6 cy6 cx7 cy7 cx8 cy8

        clear hK hK' hcx hcy
        have KEY := Lib.hid key
        clear key
        by_cases hXY : X = Y
        · have hd := sameB_yes hXY
          have HN := Lib.hid hXY
          clear hXY
          go_wp2_with (go_at_call 17; refine (KEY.out _ (by repeat (first | with_reducible exact Below.refl _ _ | with_reducible assumption | with_reducible refine Below.drew ?_ | with_reducible refine below_drewN ?_ _ | (with_reducible refine Below.alloc ?_ ?_ _; rotate_left 1; focus (first | (simp; done) | (simp; omega) | omega)) | (with_reducible refine Below.setCell ?_ ?_ _; rotate_left 1; focus (first | (simp; done) | (simp; omega) | omega))))).mono ?_; rintro e w' ⟨rfl, hB2⟩; have hB3 := Below.trans (a := w) (B := w.heap.size) (by repeat (first | with_reducible exact Below.refl _ _ | with_reducible assumption | with_reducible refine Below.drew ?_ | with_reducible refine below_drewN ?_ _ | (with_reducible refine Below.alloc ?_ ?_ _; rotate_left 1; focus (first | (simp; done) | (simp; omega) | omega)) | (with_reducible refine Below.setCell ?_ ?_ _; rotate_left 1; focus (first | (simp; done) | (simp; omega) | omega)))) (hB2.mono (by first | (simp; done) | (simp; omega) | omega)))
          all_goals
            go_roundw
            case rel => exact ⟨k + 1, by omega, by go_num, eq_step _ ht.out hlt hlt' (HX.out.trans (HN.out.trans HY.out.symm)), (by repeat (first | with_reducible exact Below.refl _ _ | with_reducible assumption | with_reducible refine Below.drew ?_ | with_reducible refine below_drewN ?_ _ | (with_reducible refine Below.alloc ?_ ?_ _; rotate_left 1; focus (first | (simp; done) | (simp; omega) | omega)) | (with_reducible refine Below.setCell ?_ ?_ _; rotate_left 1; focus (first | (simp; done) | (simp; omega) | omega))))⟩
            case measure => simp [intOf]; omega
        · have hd := sameB_no hXY
          have HN := Lib.hid hXY
          clear hXY
          go_wp2_with (go_at_call 17; refine (KEY.out _ (by repeat (first | with_reducible exact Below.refl _ _ | with_reducible assumption | with_reducible refine Below.drew ?_ | with_reducible refine below_drewN ?_ _ | (with_reducible refine Below.alloc ?_ ?_ _; rotate_left 1; focus (first | (simp; done) | (simp; omega) | omega)) | (with_reducible refine Below.setCell ?_ ?_ _; rotate_left 1; focus (first | (simp; done) | (simp; omega) | omega))))).mono ?_; rintro e w' ⟨rfl, hB2⟩; have hB3 := Below.trans (a := w) (B := w.heap.size) (by repeat (first | with_reducible exact Below.refl _ _ | with_reducible assumption | with_reducible refine Below.drew ?_ | with_reducible refine below_drewN ?_ _ | (with_reducible refine Below.alloc ?_ ?_ _; rotate_left 1; focus (first | (simp; done) | (simp; omega) | omega)) | (with_reducible refine Below.setCell ?_ ?_ _; rotate_left 1; focus (first | (simp; done) | (simp; omega) | omega)))) (hB2.mono (by first | (simp; done) | (simp; omega) | omega)))
          go_ret
          have : xs ≠ ys := eq_not (i := k) _ (by rw [HX.out, HY.out]; exact HN.out)
          exact ⟨by simp [sameB, this], (by repeat (first | with_reducible exact Below.refl _ _ | with_reducible assumption | with_reducible refine Below.drew ?_ | with_reducible refine below_drewN ?_ _ | (with_reducible refine Below.alloc ?_ ?_ _; rotate_left 1; focus (first | (simp; done) | (simp; omega) | omega)) | (with_reducible refine Below.setCell ?_ ?_ _; rotate_left 1; focus (first | (simp; done) | (simp; omega) | omega))))⟩
      · obtain rfl : k = xs.length := by omega
        go_wp2
        go_ret
        have : xs = ys := eq_end HL.out ht.out
        exact ⟨by simp [sameB, this], hB⟩
  · have hl' : ((xs.length : Int) != (ys.length : Int)) = true := by simp; omega
    have hne : xs ≠ ys := fun e => hl (by rw [e])
    have HN := Lib.hid hne
    clear hne hl
    go_enter Try.func16, Try.ntmps16
    go_wp2
    go_ret
    exact ⟨by simp [sameB, HN.out], (by repeat (first | with_reducible exact Below.refl _ _ | with_reducible assumption | with_reducible refine Below.drew ?_ | with_reducible refine below_drewN ?_ _ | (with_reducible refine Below.alloc ?_ ?_ _; rotate_left 1; focus (first | (simp; done) | (simp; omega) | omega)) | (with_reducible refine Below.setCell ?_ ?_ _; rotate_left 1; focus (first | (simp; done) | (simp; omega) | omega))))⟩

set_option maxRecDepth 100000 in
theorem raw_same (x y : Frm) (cs ds : List Value) (b : Zn) (w : World) (hx : kFrm.K b w x cs) (hy : kFrm.K b w y ds) :
    Calls Try.prog 6 #[.agg cs.toArray, .agg ds.toArray] w fun e w' => e = .returned (.bool (sameB x y)) ∧ Below w.heap.size w w' := by
  obtain ⟨A0, c0, A1, c1, A2, c2, rfl, ⟨_, _, hC⟩, _, ⟨_, _, hB⟩, ⟨_, _, hF⟩⟩ := K_frm.1 hx
  obtain ⟨B0, d0, B1, d1, B2, d2, rfl, ⟨_, _, hC'⟩, _, ⟨_, _, hB'⟩, ⟨_, _, hF'⟩⟩ := K_frm.1 hy
  have hu := Try.underlying26
  have kC := fun W hW => eqf_chans A0 B0 c0 d0 b x.chans y.chans W (Kd.C_below hC hW) (Kd.C_below hC' hW)
  have kB := fun W hW => eqf_bands A1 B1 c1 d1 b x.bands y.bands W (Kd.C_below hB hW) (Kd.C_below hB' hW)
  have kF := fun W hW => equal_u8 A2 B2 c2 d2 b x.fill y.fill W (Kd.C_below hF hW) (Kd.C_below hF' hW)
  have hfin : sameB x y = (decide (x.common = y.common) && decide (x.mask = y.mask) && sameB x.fill y.fill && sameB x.chans y.chans && sameB x.bands y.bands) := by
    obtain ⟨a1, a2, a3, a4, a5⟩ := x; obtain ⟨b1, b2, b3, b4, b5⟩ := y; simp only [sameB, Frm.mk.injEq, Bool.decide_and]; cases decide (a1 = b1) <;> cases decide (a2 = b2) <;> cases decide (a3 = b3) <;> cases decide (a4 = b4) <;> cases decide (a5 = b5) <;> rfl
  obtain ⟨x0, x1, x2, x3, x4⟩ := x
  obtain ⟨y0, y1, y2, y3, y4⟩ := y
  dsimp only at kC kB kF hfin
  have KC := Lib.hid kC
  have KB := Lib.hid kB
  have KF := Lib.hid kF
  have HF := Lib.hid hfin
  clear kC kB kF hfin hx hy hC hC' hB hB' hF hF'
  go_enter Try.func6, Try.ntmps6
  go_wp2_with (first
   | (go_at_call 15; refine (KF.out _ (by repeat (first | with_reducible exact Below.refl _ _ | with_reducible assumption | with_reducible refine Below.drew ?_ | with_reducible refine below_drewN ?_ _ | (with_reducible refine Below.alloc ?_ ?_ _; rotate_left 1; focus (first | (simp; done) | (simp; omega) | omega)) | (with_reducible refine Below.setCell ?_ ?_ _; rotate_left 1; focus (first | (simp; done) | (simp; omega) | omega))))).mono ?_; rintro e w' ⟨rfl, hq⟩; have hB1 := below_of_drawn hq; clear hq; obtain ⟨hc, hf⟩ := bcell hB1; have hz := hB1.size; (try simp at hz); have hz0 : w.heap.size < w'.heap.size := (by omega); have hz1 : w.heap.size + 1 < w'.heap.size := (by omega); have hB0 := below_then (w := w) (by repeat (first | with_reducible exact Below.refl _ _ | with_reducible assumption | with_reducible refine Below.drew ?_ | with_reducible refine below_drewN ?_ _ | (with_reducible refine Below.alloc ?_ ?_ _; rotate_left 1; focus (first | (simp; done) | (simp; omega) | omega)) | (with_reducible refine Below.setCell ?_ ?_ _; rotate_left 1; focus (first | (simp; done) | (simp; omega) | omega)))) hB1; clear hB1)
   | (go_at_call 16; refine (KC.out _ (by repeat (first | with_reducible exact Below.refl _ _ | with_reducible assumption | with_reducible refine Below.drew ?_ | with_reducible refine below_drewN ?_ _ | (with_reducible refine Below.alloc ?_ ?_ _; rotate_left 1; focus (first | (simp; done) | (simp; omega) | omega)) | (with_reducible refine Below.setCell ?_ ?_ _; rotate_left 1; focus (first | (simp; done) | (simp; omega) | omega))))).mono ?_; rintro e w' ⟨rfl, hB1⟩; obtain ⟨hc, hf⟩ := bcell hB1; have hz := hB1.size; (try simp at hz); have hz0 : w.heap.size < w'.heap.size := (by omega); have hz1 : w.heap.size + 1 < w'.heap.size := (by omega); have hB0 := below_then (w := w) (by repeat (first | with_reducible exact Below.refl _ _ | with_reducible assumption | with_reducible refine Below.drew ?_ | with_reducible refine below_drewN ?_ _ | (with_reducible refine Below.alloc ?_ ?_ _; rotate_left 1; focus (first | (simp; done) | (simp; omega) | omega)) | (with_reducible refine Below.setCell ?_ ?_ _; rotate_left 1; focus (first | (simp; done) | (simp; omega) | omega)))) hB1; clear hB1)
   | (go_at_call 18; refine (KB.out _ (by repeat (first | with_reducible exact Below.refl _ _ | with_reducible assumption | with_reducible refine Below.drew ?_ | with_reducible refine below_drewN ?_ _ | (with_reducible refine Below.alloc ?_ ?_ _; rotate_left 1; focus (first | (simp; done) | (simp; omega) | omega)) | (with_reducible refine Below.setCell ?_ ?_ _; rotate_left 1; focus (first | (simp; done) | (simp; omega) | omega))))).mono ?_; rintro e w' ⟨rfl, hB1⟩; obtain ⟨hc, hf⟩ := bcell hB1; have hz := hB1.size; (try simp at hz); have hz0 : w.heap.size < w'.heap.size := (by omega); have hz1 : w.heap.size + 1 < w'.heap.size := (by omega); have hB0 := below_then (w := w) (by repeat (first | with_reducible exact Below.refl _ _ | with_reducible assumption | with_reducible refine Below.drew ?_ | with_reducible refine below_drewN ?_ _ | (with_reducible refine Below.alloc ?_ ?_ _; rotate_left 1; focus (first | (simp; done) | (simp; omega) | omega)) | (with_reducible refine Below.setCell ?_ ?_ _; rotate_left 1; focus (first | (simp; done) | (simp; omega) | omega)))) hB1; clear hB1))
  all_goals
    go_ret
    refine ⟨?_, (by repeat (first | with_reducible exact Below.refl _ _ | with_reducible assumption | with_reducible refine Below.drew ?_ | with_reducible refine below_drewN ?_ _ | (with_reducible refine Below.alloc ?_ ?_ _; rotate_left 1; focus (first | (simp; done) | (simp; omega) | omega)) | (with_reducible refine Below.setCell ?_ ?_ _; rotate_left 1; focus (first | (simp; done) | (simp; omega) | omega))))⟩
    have h2 := HF.out
    first | (rw [h2]; simp [*]) | ((try simp [*] at h2); simp [*])

end Go.Proofs.Ytagihamgaidikaa
