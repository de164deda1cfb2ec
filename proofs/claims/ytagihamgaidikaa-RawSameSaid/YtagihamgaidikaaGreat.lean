/- The references' Great: what it lets through is small. -/
import Derived.Test.YtagihamgaidikaaTwinr
set_option linter.unusedVariables false
set_option linter.unusedSimpArgs false
namespace Go.Proofs.Ytagihamgaidikaa
open Go.RowKit
set_option maxHeartbeats 1000000
/-- What reedpiperef18.Great lets through. -/
structure Chn.Tiny (x : Chn) : Prop where
  g : x.info.groups.length ≤ 40
  s : x.sections.length ≤ 40
  ss : ∀ i, i < x.sections.length → (x.sections.getD i []).length ≤ 100
  t : x.steps.length ≤ 40
  tt : ∀ i, i < x.steps.length → (x.steps.getD i []).length ≤ 200
  n : x.tns.length ≤ 40
  nn : ∀ i, i < x.tns.length → (x.tns.getD i []).length ≤ 20
  nc : ∀ i, i < x.tns.length → ∀ j, j < (x.tns.getD i []).length → ((x.tns.getD i []).getD j default).coefs.length ≤ 100
  l : x.lines.length ≤ 2000
theorem upto_next {p : Nat → Prop} {k : Nat} (h : ∀ i, i < k → p i) (hk : p k) : ∀ i, i < k + 1 → p i := fun i hi => by
  rcases Nat.lt_or_ge i k with h1 | h1
  · exact h i h1
  · obtain rfl : i = k := by omega
    exact hk
theorem great18 (x : Chn) (cs : List Value) (b : Zn) (w : World) (hx : kChn.K b w x cs) :
    Calls Try.prog 9 #[.agg cs.toArray] w fun e w' => ((e = .returned (.bool false) ∧ x.Tiny) ∨ e = .returned (.bool true)) ∧ Below w.heap.size w w' := by
  obtain ⟨A0, c0, A1, c1, A2, c2, A3, c3, A4, c4, rfl, r0, ⟨ri0, ri1, ri2, _, hm0, hC0⟩, ⟨_, hm1, hC1⟩, ⟨_, hm2, hC2⟩, ⟨_, hm3, hC3⟩, ⟨_, hm4, hC4⟩⟩ := K_chn.1 hx
  obtain ⟨x0, ⟨i0, i1, i2, xg⟩, xs, xt, xn, xl⟩ := x
  have hu := Try.underlying37
  have hu2 := Try.underlying32
  have hu3 := Try.underlying53
  dsimp only at hC0 hC1 hC2 hC3 hC4 r0 ri0 ri1 ri2
  clear hx
  have HC1 := Lib.hid hC1
  have HC2 := Lib.hid hC2
  have HC3 := Lib.hid hC3
  clear hC0 hC1 hC2 hC3 hC4
  by_cases hsm : xg.length ≤ 40 ∧ xs.length ≤ 40 ∧ xt.length ≤ 40 ∧ xn.length ≤ 40 ∧ xl.length ≤ 2000
  · obtain ⟨h0, h1, h2, h3, h4⟩ := hsm
    go_enter Try.func9, Try.ntmps9
    go_wp2_with fail
    refine gen (F := fun W => (W.cell? ⟨w.heap.size, 0, none⟩ = some (.int .i64 x0) ∧ W.cell? ⟨w.heap.size, 1, none⟩ = some (.int .u8 i0) ∧ W.cell? ⟨w.heap.size, 2, none⟩ = some (.int .u8 i1) ∧ W.cell? ⟨w.heap.size, 3, none⟩ = some (.int .i64 i2) ∧ W.cell? ⟨w.heap.size, 4, none⟩ = some (.slice A0 xg.length c0) ∧ W.cell? ⟨w.heap.size, 5, none⟩ = some (.slice A1 xs.length c1) ∧ W.cell? ⟨w.heap.size, 6, none⟩ = some (.slice A2 xt.length c2) ∧ W.cell? ⟨w.heap.size, 7, none⟩ = some (.slice A3 xn.length c3) ∧ W.cell? ⟨w.heap.size, 8, none⟩ = some (.slice A4 xl.length c4)) ∧ Below w.heap.size w W) ⟨?_, (by repeat (first | with_reducible exact Below.refl _ _ | with_reducible assumption | with_reducible refine Below.drew ?_ | with_reducible refine below_drewN ?_ _ | (with_reducible refine Below.alloc ?_ ?_ _; rotate_left 1; focus (first | (simp; done) | (simp; omega) | omega)) | (with_reducible refine Below.setCell ?_ ?_ _; rotate_left 1; focus (first | (simp; done) | (simp; omega) | omega))))⟩ ?_
    · simp [go_sem]
    rintro W ⟨⟨q0, q1, q2, q3, q4, q5, q6, q7, q8⟩, hB⟩
    have HD1 := Lib.hid (Kd.C_below HC1.out hB)
    have HD2 := Lib.hid (Kd.C_below HC2.out hB)
    have HD3 := Lib.hid (Kd.C_below HC3.out hB)
    clear HC1 HC2 HC3
    go_loopw [3] (fun i wr => ∃ k : Nat, k ≤ xs.length ∧ i = .int .i64 k ∧ Hid (∀ i, i < k → (xs.getD i []).length ≤ 100) ∧ wr = W) (fun i _ => xs.length - (intOf i).toNat)
    case atStart => exact ⟨0, Nat.zero_le _, rfl, fun i hi => absurd hi (Nat.not_lt_zero _), rfl⟩
    case round =>
      obtain ⟨k, hk, rfl, HS, rfl⟩ := hrel
      by_cases hlt : k < xs.length
      · obtain ⟨g, o, A', c', hA, hg, hc, _, hc2, _⟩ := C_sl HD1.out hlt
        subst hA
        by_cases hle : (xs.getD k []).length ≤ 100
        · have HN := Lib.hid (upto_next HS.out hle)
          generalize xs.getD k [] = X at *
          go_wp2_with fail
          go_roundw
          case rel => exact ⟨k + 1, by omega, by go_num, HN, trivial⟩
          case measure => simp [intOf]; omega
        · generalize xs.getD k [] = X at *
          go_wp2_with fail
          go_ret
          exact ⟨.inr rfl, hB⟩
      · obtain rfl : k = xs.length := by omega
        go_wp2_with fail
        clear HD1
        obtain ⟨W2, h7⟩ : ∃ W2, wr = W2 := ⟨_, rfl⟩
        subst wr
        go_loopw [4] (fun i wr => ∃ k : Nat, k ≤ xt.length ∧ i = .int .i64 k ∧ Hid (∀ i, i < k → (xt.getD i []).length ≤ 200) ∧ wr = W2) (fun i _ => xt.length - (intOf i).toNat)
        case atStart => exact ⟨0, Nat.zero_le _, rfl, fun i hi => absurd hi (Nat.not_lt_zero _), rfl⟩
        case round =>
          obtain ⟨k, hk, rfl, HT, rfl⟩ := hrel
          by_cases hlt : k < xt.length
          · obtain ⟨g, o, A', c', hA, hg, hc, _, hc2, _⟩ := C_sl HD2.out hlt
            subst hA
            by_cases hle : (xt.getD k []).length ≤ 200
            · have HN := Lib.hid (upto_next HT.out hle)
              generalize xt.getD k [] = X at *
              go_wp2_with fail
              go_roundw
              case rel => exact ⟨k + 1, by omega, by go_num, HN, trivial⟩
              case measure => simp [intOf]; omega
            · generalize xt.getD k [] = X at *
              go_wp2_with fail
              go_ret
              exact ⟨.inr rfl, hB⟩
          · obtain rfl : k = xt.length := by omega
            go_wp2_with fail
            clear HD2
            obtain ⟨W3, h7⟩ : ∃ W3, wr = W3 := ⟨_, rfl⟩
            subst wr
            go_loopw [5, 6] (fun i _ wr => ∃ k : Nat, k ≤ xn.length ∧ i = .int .i64 k ∧ Hid (∀ i, i < k → (xn.getD i []).length ≤ 20) ∧ Hid (∀ i, i < k → ∀ j, j < (xn.getD i []).length → ((xn.getD i []).getD j default).coefs.length ≤ 100) ∧ wr = W3) (fun i _ _ => xn.length - (intOf i).toNat)
            case atStart => exact ⟨0, Nat.zero_le _, rfl, fun i hi => absurd hi (Nat.not_lt_zero _), fun i hi => absurd hi (Nat.not_lt_zero _), rfl⟩
            case round =>
              obtain ⟨k, hk, rfl, HU, HV, rfl⟩ := hrel
              by_cases hlt : k < xn.length
              · obtain ⟨g, o, A', c', hA, hg, hc, hcl, hc2, hC⟩ := C_sl HD3.out hlt
                subst hA
                by_cases hle : (xn.getD k []).length ≤ 20
                · have HN := Lib.hid (upto_next HU.out hle)
                  have HM := Lib.hid (fun h => upto_next (p := fun i => ∀ j, j < (xn.getD i []).length → ((xn.getD i []).getD j default).coefs.length ≤ 100) HV.out h)
                  have HC := Lib.hid hC
                  clear HU HV hC
                  generalize xn.getD k [] = X at *
                  go_wp2_with fail
                  obtain ⟨W4, h7⟩ : ∃ W4, wr = W4 := ⟨_, rfl⟩
                  subst wr
                  go_loopw [6] (fun j wr => ∃ q : Nat, q ≤ X.length ∧ j = .int .i64 q ∧ Hid (∀ j, j < q → (X.getD j default).coefs.length ≤ 100) ∧ wr = W4) (fun j _ => X.length - (intOf j).toNat)
                  case atStart => exact ⟨0, Nat.zero_le _, rfl, fun i hi => absurd hi (Nat.not_lt_zero _), rfl⟩
                  case round =>
                    obtain ⟨q, hq, rfl, HW, rfl⟩ := hrel
                    by_cases hql : q < X.length
                    · obtain ⟨g', o', cs, hA, hg', hK, hcs⟩ := Kd.C_at HC.out default hql
                      subst hA
                      obtain ⟨Aq, cq, rfl, _, _, _, hq2, _⟩ := K_filt.1 hK
                      have h4 := hcs 4 _ rfl
                      simp only [show kFilt.sz = 5 from rfl, ← Nat.add_assoc] at h4
                      clear hcs hK
                      by_cases hle2 : (X.getD q default).coefs.length ≤ 100
                      · have HN2 := Lib.hid (upto_next HW.out hle2)
                        generalize X.getD q default = xq at *
                        go_wp2_with fail
                        go_roundw
                        case rel => exact ⟨q + 1, by omega, by go_num, HN2, trivial⟩
                        case measure => simp [intOf]; omega
                      · generalize X.getD q default = xq at *
                        go_wp2_with fail
                        go_ret
                        exact ⟨.inr rfl, hB⟩
                    · obtain rfl : q = X.length := by omega
                      go_wp2_with fail
                      go_roundw
                      case rel => exact ⟨k + 1, by omega, by go_num, HN, Lib.hid (HM.out HW.out), trivial⟩
                      case measure => simp [intOf]; omega
                · generalize xn.getD k [] = X at *
                  go_wp2_with fail
                  go_ret
                  exact ⟨.inr rfl, hB⟩
              · obtain rfl : k = xn.length := by omega
                go_wp2_with fail
                go_ret
                exact ⟨.inl ⟨rfl, ⟨h0, h1, HS.out, h2, HT.out, h3, HU.out, HV.out, h4⟩⟩, hB⟩
  · go_enter Try.func9, Try.ntmps9
    by_cases h0 : xg.length ≤ 40
    · by_cases h1 : xs.length ≤ 40
      · by_cases h2 : xt.length ≤ 40
        · by_cases h3 : xn.length ≤ 40
          · have h4 : ¬ xl.length ≤ 2000 := fun h => hsm ⟨h0, h1, h2, h3, h⟩
            clear hsm
            go_wp2_with fail
            go_ret
            exact ⟨.inr rfl, (by repeat (first | with_reducible exact Below.refl _ _ | with_reducible assumption | with_reducible refine Below.drew ?_ | with_reducible refine below_drewN ?_ _ | (with_reducible refine Below.alloc ?_ ?_ _; rotate_left 1; focus (first | (simp; done) | (simp; omega) | omega)) | (with_reducible refine Below.setCell ?_ ?_ _; rotate_left 1; focus (first | (simp; done) | (simp; omega) | omega))))⟩
          · clear hsm
            go_wp2_with fail
            go_ret
            exact ⟨.inr rfl, (by repeat (first | with_reducible exact Below.refl _ _ | with_reducible assumption | with_reducible refine Below.drew ?_ | with_reducible refine below_drewN ?_ _ | (with_reducible refine Below.alloc ?_ ?_ _; rotate_left 1; focus (first | (simp; done) | (simp; omega) | omega)) | (with_reducible refine Below.setCell ?_ ?_ _; rotate_left 1; focus (first | (simp; done) | (simp; omega) | omega))))⟩
        · clear hsm
          go_wp2_with fail
          go_ret
          exact ⟨.inr rfl, (by repeat (first | with_reducible exact Below.refl _ _ | with_reducible assumption | with_reducible refine Below.drew ?_ | with_reducible refine below_drewN ?_ _ | (with_reducible refine Below.alloc ?_ ?_ _; rotate_left 1; focus (first | (simp; done) | (simp; omega) | omega)) | (with_reducible refine Below.setCell ?_ ?_ _; rotate_left 1; focus (first | (simp; done) | (simp; omega) | omega))))⟩
      · clear hsm
        go_wp2_with fail
        go_ret
        exact ⟨.inr rfl, (by repeat (first | with_reducible exact Below.refl _ _ | with_reducible assumption | with_reducible refine Below.drew ?_ | with_reducible refine below_drewN ?_ _ | (with_reducible refine Below.alloc ?_ ?_ _; rotate_left 1; focus (first | (simp; done) | (simp; omega) | omega)) | (with_reducible refine Below.setCell ?_ ?_ _; rotate_left 1; focus (first | (simp; done) | (simp; omega) | omega))))⟩
    · clear hsm
      go_wp2_with fail
      go_ret
      exact ⟨.inr rfl, (by repeat (first | with_reducible exact Below.refl _ _ | with_reducible assumption | with_reducible refine Below.drew ?_ | with_reducible refine below_drewN ?_ _ | (with_reducible refine Below.alloc ?_ ?_ _; rotate_left 1; focus (first | (simp; done) | (simp; omega) | omega)) | (with_reducible refine Below.setCell ?_ ?_ _; rotate_left 1; focus (first | (simp; done) | (simp; omega) | omega))))⟩
end Go.Proofs.Ytagihamgaidikaa
