/- reedpiperef23.Great: what it lets through is small. -/
import Derived.Test.YtagihamgaidikaaGreat
set_option linter.unusedVariables false
set_option linter.unusedSimpArgs false
namespace Go.Proofs.Ytagihamgaidikaa
open Go.RowKit
set_option maxHeartbeats 1000000
structure Frm.Tiny (x : Frm) : Prop where
  c : x.chans.length ≤ 10
  cs : ∀ i, i < x.chans.length → (x.chans.getD i default).Tiny
  b : x.bands.length ≤ 40
  bs : ∀ i, i < x.bands.length → (x.bands.getD i []).length ≤ 200
  f : x.fill.length ≤ 2000
theorem great23 (x : Frm) (cs : List Value) (b : Zn) (w : World) (hx : kFrm.K b w x cs) :
    Calls Try.prog 4 #[.agg cs.toArray] w fun e w' => ((e = .returned (.bool false) ∧ x.Tiny) ∨ e = .returned (.bool true)) ∧ Below w.heap.size w w' := by
  obtain ⟨A0, c0, A1, c1, A2, c2, rfl, ⟨_, hm0, hC0⟩, r2, ⟨_, hm1, hC1⟩, ⟨_, hm2, hC2⟩⟩ := K_frm.1 hx
  obtain ⟨xc, x1, x2, xb, xf⟩ := x
  have hu := Try.underlying26
  have hu2 := Try.underlying37
  dsimp only at hC0 hC1 hC2 r2
  clear hx
  have HC0 := Lib.hid hC0
  have HC1 := Lib.hid hC1
  clear hC0 hC1 hC2
  go_enter Try.func4, Try.ntmps4
  go_wp2_with fail
  refine gen (F := fun W => (W.cell? ⟨w.heap.size, 0, none⟩ = some (.slice A0 xc.length c0) ∧ W.cell? ⟨w.heap.size, 1, none⟩ = some (.bool x1) ∧ W.cell? ⟨w.heap.size, 2, none⟩ = some (.int .i64 x2) ∧ W.cell? ⟨w.heap.size, 3, none⟩ = some (.slice A1 xb.length c1) ∧ W.cell? ⟨w.heap.size, 4, none⟩ = some (.slice A2 xf.length c2)) ∧ Hid (w.heap.size < W.heap.size) ∧ Below w.heap.size w W) ⟨?_, Lib.hid (by simp), (by repeat (first | with_reducible exact Below.refl _ _ | with_reducible assumption | with_reducible refine Below.drew ?_ | with_reducible refine below_drewN ?_ _ | (with_reducible refine Below.alloc ?_ ?_ _; rotate_left 1; focus (first | (simp; done) | (simp; omega) | omega)) | (with_reducible refine Below.setCell ?_ ?_ _; rotate_left 1; focus (first | (simp; done) | (simp; omega) | omega))))⟩ ?_
  · simp [go_sem]
  rintro W ⟨⟨q0, q1, q2, q3, q4⟩, HN, hB⟩
  have HD0 := Lib.hid (Kd.C_below HC0.out hB)
  have HD1 := Lib.hid (Kd.C_below HC1.out hB)
  clear HC0 HC1
  go_loopw [3] (fun i wr => ∃ k : Nat, k ≤ xc.length ∧ k ≤ 10 ∧ i = .int .i64 k ∧ Hid (∀ i, i < k → (xc.getD i default).Tiny) ∧ Below W.heap.size W wr) (fun i _ => 10 - (intOf i).toNat)
  case atStart => exact ⟨0, Nat.zero_le _, by omega, rfl, fun i hi => absurd hi (Nat.not_lt_zero _), Below.refl _ _⟩
  case round =>
    obtain ⟨k, hk, hk2, rfl, HS, hB2⟩ := hrel
    have hcw := (box_keep hB2 HN.out).1
    simp only [← hcw] at q0 q1 q2 q3 q4
    clear hcw
    by_cases hlt : k < xc.length
    · by_cases hlt2 : k < 10
      · obtain ⟨g, o, cs, hA, hg, hK, hcs⟩ := Kd.C_at (Kd.C_below HD0.out hB2) default hlt
        subst hA
        have key := great18 (xc.getD k default) cs b wr hK
        obtain ⟨E0, e0, E1, e1, E2, e2, E3, e3, E4, e4, rfl, _⟩ := K_chn.1 hK
        have hi := fun j u hu => hcs j u hu
        simp only [show kChn.sz = 9 from rfl, ← Nat.add_assoc] at hi
        have h0 := hi 0 _ rfl
        rw [Nat.add_zero] at h0
        have h1 := hi 1 _ rfl
        have h2 := hi 2 _ rfl
        have h3 := hi 3 _ rfl
        have h4 := hi 4 _ rfl
        have h5 := hi 5 _ rfl
        have h6 := hi 6 _ rfl
        have h7 := hi 7 _ rfl
        have h8 := hi 8 _ rfl
        have KY := Lib.hid key
        have HM := Lib.hid (fun h => upto_next (p := fun i => (xc.getD i default).Tiny) HS.out h)
        clear key hK hcs hi HS
        generalize xc.getD k default = X at *
        obtain ⟨X0, ⟨X1, X2, X3, X4⟩, X5, X6, X7, X8⟩ := X
        dsimp only at h0 h1 h2 h3 h4 h5 h6 h7 h8 KY
        go_wp2_with fail
        refine KY.out.mono ?_
        rintro e w' ⟨⟨rfl, hT⟩ | rfl, hB1⟩
        · have HT := Lib.hid hT
          clear hT
          go_wp2_with fail
          go_roundw
          case rel => exact ⟨k + 1, by omega, by omega, by go_num, Lib.hid (HM.out HT.out), below_then hB2 hB1⟩
          case measure => simp [intOf]; omega
        · go_wp2_with fail
          go_ret
          exact ⟨.inr rfl, below_then hB (below_then hB2 hB1)⟩
      · go_wp2_with fail
        have HCS : Hid (xc.length ≤ 10 → ∀ i, i < xc.length → (xc.getD i default).Tiny) := Lib.hid (fun h => absurd h (by omega))
        clear HS HD0
        have HR := Lib.hid (Kd.C_below HD1.out hB2)
        clear HD1
        obtain ⟨W2, h7⟩ : ∃ W2, wr = W2 := ⟨_, rfl⟩
        subst wr
        go_loopw [4] (fun i wr => ∃ k : Nat, k ≤ xb.length ∧ k ≤ 40 ∧ i = .int .i64 k ∧ Hid (∀ i, i < k → (xb.getD i []).length ≤ 200) ∧ wr = W2) (fun i _ => 40 - (intOf i).toNat)
        case atStart => exact ⟨0, Nat.zero_le _, by omega, rfl, fun i hi => absurd hi (Nat.not_lt_zero _), rfl⟩
        case round =>
          obtain ⟨k, hk, hk2, rfl, HT, rfl⟩ := hrel
          by_cases hlt : k < xb.length
          · by_cases hlt2 : k < 40
            · obtain ⟨g, o, A', c', hA, hg, hc, _, hc2, _⟩ := C_sl HR.out hlt
              subst hA
              by_cases hle : (xb.getD k []).length ≤ 200
              · have HM := Lib.hid (upto_next HT.out hle)
                generalize xb.getD k [] = X at *
                go_wp2_with fail
                go_roundw
                case rel => exact ⟨k + 1, by omega, by omega, by go_num, HM, trivial⟩
                case measure => simp [intOf]; omega
              · generalize xb.getD k [] = X at *
                go_wp2_with fail
                go_ret
                exact ⟨.inr rfl, below_then hB hB2⟩
            · go_wp2_with fail
              have HBS : Hid (xb.length ≤ 40 → ∀ i, i < xb.length → (xb.getD i []).length ≤ 200) := Lib.hid (fun h => absurd h (by omega))
              by_cases hF0 : xc.length ≤ 10
              · by_cases hF1 : xb.length ≤ 40
                · by_cases hF2 : xf.length ≤ 2000
                  · first
                      | (exfalso; omega)
                      | (go_wp2_with fail; go_ret; exact ⟨.inl ⟨(by first | rfl | (simp; omega)), ⟨hF0, HCS.out hF0, hF1, HBS.out hF1, hF2⟩⟩, below_then hB hB2⟩)
                  · go_wp2_with fail
                    go_ret
                    exact ⟨.inr (by first | rfl | (simp; omega)), below_then hB hB2⟩
                · go_wp2_with fail
                  go_ret
                  exact ⟨.inr (by first | rfl | (simp; omega)), below_then hB hB2⟩
              · go_wp2_with fail
                go_ret
                exact ⟨.inr (by first | rfl | (simp; omega)), below_then hB hB2⟩
          · obtain rfl : k = xb.length := by omega
            go_wp2_with fail
            have HBS : Hid (xb.length ≤ 40 → ∀ i, i < xb.length → (xb.getD i []).length ≤ 200) := Lib.hid (fun _ => HT.out)
            by_cases hF0 : xc.length ≤ 10
            · by_cases hF1 : xb.length ≤ 40
              · by_cases hF2 : xf.length ≤ 2000
                · first
                    | (exfalso; omega)
                    | (go_wp2_with fail; go_ret; exact ⟨.inl ⟨(by first | rfl | (simp; omega)), ⟨hF0, HCS.out hF0, hF1, HBS.out hF1, hF2⟩⟩, below_then hB hB2⟩)
                · go_wp2_with fail
                  go_ret
                  exact ⟨.inr (by first | rfl | (simp; omega)), below_then hB hB2⟩
              · go_wp2_with fail
                go_ret
                exact ⟨.inr (by first | rfl | (simp; omega)), below_then hB hB2⟩
            · go_wp2_with fail
              go_ret
              exact ⟨.inr (by first | rfl | (simp; omega)), below_then hB hB2⟩
    · obtain rfl : k = xc.length := by omega
      go_wp2_with fail
      have HCS : Hid (xc.length ≤ 10 → ∀ i, i < xc.length → (xc.getD i default).Tiny) := Lib.hid (fun _ => HS.out)
      clear HS HD0
      have HR := Lib.hid (Kd.C_below HD1.out hB2)
      clear HD1
      obtain ⟨W2, h7⟩ : ∃ W2, wr = W2 := ⟨_, rfl⟩
      subst wr
      go_loopw [4] (fun i wr => ∃ k : Nat, k ≤ xb.length ∧ k ≤ 40 ∧ i = .int .i64 k ∧ Hid (∀ i, i < k → (xb.getD i []).length ≤ 200) ∧ wr = W2) (fun i _ => 40 - (intOf i).toNat)
      case atStart => exact ⟨0, Nat.zero_le _, by omega, rfl, fun i hi => absurd hi (Nat.not_lt_zero _), rfl⟩
      case round =>
        obtain ⟨k, hk, hk2, rfl, HT, rfl⟩ := hrel
        by_cases hlt : k < xb.length
        · by_cases hlt2 : k < 40
          · obtain ⟨g, o, A', c', hA, hg, hc, _, hc2, _⟩ := C_sl HR.out hlt
            subst hA
            by_cases hle : (xb.getD k []).length ≤ 200
            · have HM := Lib.hid (upto_next HT.out hle)
              generalize xb.getD k [] = X at *
              go_wp2_with fail
              go_roundw
              case rel => exact ⟨k + 1, by omega, by omega, by go_num, HM, trivial⟩
              case measure => simp [intOf]; omega
            · generalize xb.getD k [] = X at *
              go_wp2_with fail
              go_ret
              exact ⟨.inr (by first | rfl | (simp; omega)), below_then hB hB2⟩
          · go_wp2_with fail
            have HBS : Hid (xb.length ≤ 40 → ∀ i, i < xb.length → (xb.getD i []).length ≤ 200) := Lib.hid (fun h => absurd h (by omega))
            by_cases hF0 : xc.length ≤ 10
            · by_cases hF1 : xb.length ≤ 40
              · by_cases hF2 : xf.length ≤ 2000
                · first
                    | (exfalso; omega)
                    | (go_wp2_with fail; go_ret; exact ⟨.inl ⟨(by first | rfl | (simp; omega)), ⟨hF0, HCS.out hF0, hF1, HBS.out hF1, hF2⟩⟩, below_then hB hB2⟩)
                · go_wp2_with fail
                  go_ret
                  exact ⟨.inr (by first | rfl | (simp; omega)), below_then hB hB2⟩
              · go_wp2_with fail
                go_ret
                exact ⟨.inr (by first | rfl | (simp; omega)), below_then hB hB2⟩
            · go_wp2_with fail
              go_ret
              exact ⟨.inr (by first | rfl | (simp; omega)), below_then hB hB2⟩
        · obtain rfl : k = xb.length := by omega
          go_wp2_with fail
          have HBS : Hid (xb.length ≤ 40 → ∀ i, i < xb.length → (xb.getD i []).length ≤ 200) := Lib.hid (fun _ => HT.out)
          by_cases hF0 : xc.length ≤ 10
          · by_cases hF1 : xb.length ≤ 40
            · by_cases hF2 : xf.length ≤ 2000
              · first
                  | (exfalso; omega)
                  | (go_wp2_with fail; go_ret; exact ⟨.inl ⟨(by first | rfl | (simp; omega)), ⟨hF0, HCS.out hF0, hF1, HBS.out hF1, hF2⟩⟩, below_then hB hB2⟩)
              · go_wp2_with fail
                go_ret
                exact ⟨.inr (by first | rfl | (simp; omega)), below_then hB hB2⟩
            · go_wp2_with fail
              go_ret
              exact ⟨.inr (by first | rfl | (simp; omega)), below_then hB hB2⟩
          · go_wp2_with fail
            go_ret
            exact ⟨.inr (by first | rfl | (simp; omega)), below_then hB hB2⟩
end Go.Proofs.Ytagihamgaidikaa
