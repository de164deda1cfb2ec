/- info.Twin, lane.Twin, raw.Twin: data in new memory. -/
import Derived.Test.YtagihamgaidikaaTwins
import Derived.StillTailTactics
set_option linter.unusedVariables false
set_option linter.unusedSimpArgs false
namespace Go.Proofs.Ytagihamgaidikaa
open Go.RowKit
theorem O_i64 {e : Nat} {b : Zn} {base : Nat} {w : World} {v : Value} {xs : List Int} (h : I64.O e b base w v xs) (y : Zn) (hy : y.lo ≤ base) :
    ∃ A c, v = .slice A xs.length c ∧ xs.length ≤ c ∧ c ≤ maxLen ∧ I64.C e y w A xs := Kd.O_flat (h1 := fun _ => rfl) h y hy
theorem Kd.C_hi {α : Type} {d : Kd α} {e n m : Nat} {w w1 : World} {A : Option Addr} {xs : List α} (h : d.C e ⟨n, m⟩ w A xs) (hc : ∀ k, n ≤ k → w1.heap[k]? = w.heap[k]?) {b : Zn} (hb : Zn.le ⟨n, m⟩ b) : d.C e b w1 A xs :=
  Kd.C_mono (Kd.C_chg h fun k ⟨_, _, q⟩ => hc k q.1) hb
theorem hi_refl (n : Nat) (w : World) : ∀ k, n ≤ k → w.heap[k]? = w.heap[k]? := fun _ _ => rfl
theorem hi_set {n : Nat} {w w1 : World} (h : ∀ k, n ≤ k → w1.heap[k]? = w.heap[k]?) (p : Addr) (u : Value) (hp : p.block < n) : ∀ k, n ≤ k → (w1.setCell p u).heap[k]? = w.heap[k]? :=
  fun k hk => (Below.heap_setCell w1 p u k (by omega)).trans (h k hk)
set_option maxHeartbeats 4000000
theorem info_twin (x : Inf) (cs : List Value) (b : Zn) (w : World) (hx : kInf.K b w x cs) (hb : b.hi ≤ w.heap.size) (hl : x.groups.length * 8 ≤ 140737488355328) :
    Calls Try.prog 22 #[.agg cs.toArray] w fun e w' => ∃ ds, e = .returned (.agg ds.toArray) ∧ kInf.K (Zn.new w) w' x ds ∧ Below w.heap.size w w' := by
  obtain ⟨A0, c0, rfl, r1, r2, r3, _, _, hC⟩ := K_inf.1 hx
  obtain ⟨x0, x1, x2, x4⟩ := x
  have hu := Try.underlying32
  dsimp only at hC hl r1 r2 r3
  clear hx
  have key := fun (o1 o2 : Obj) => clone_int A0 c0 b x4 ((w.alloc o1).alloc o2) (Kd.C_below hC (by repeat (first | with_reducible exact Below.refl _ _ | with_reducible assumption | with_reducible refine Below.drew ?_ | with_reducible refine below_drewN ?_ _ | (with_reducible refine Below.alloc ?_ ?_ _; rotate_left 1; focus (first | (simp; done) | (simp; omega) | omega)) | (with_reducible refine Below.setCell ?_ ?_ _; rotate_left 1; focus (first | (simp; done) | (simp; omega) | omega))))) (by simp; omega) hl
  have KEY := Lib.hid key
  clear key hC
  go_enter Try.func22, Try.ntmps22
  go_wp2_with (go_at_call 26; refine (KEY.out _ _).mono ?_; rintro e w' ⟨v, rfl, hO, hB1⟩; obtain ⟨Av, cv, rfl, hv1, hv2, hv3⟩ := O_i64 hO ⟨w.heap.size + 2, 0⟩ (by simp); have HO := Lib.hid hv3; clear hO hv3; obtain ⟨hc, hf⟩ := bcell hB1; have hz := hB1.size; (try simp at hz); have hz0 : w.heap.size < w'.heap.size := (by omega); have hz1 : w.heap.size + 1 < w'.heap.size := (by omega); have hB0 := below_then (w := w) (by repeat (first | with_reducible exact Below.refl _ _ | with_reducible assumption | with_reducible refine Below.drew ?_ | with_reducible refine below_drewN ?_ _ | (with_reducible refine Below.alloc ?_ ?_ _; rotate_left 1; focus (first | (simp; done) | (simp; omega) | omega)) | (with_reducible refine Below.setCell ?_ ?_ _; rotate_left 1; focus (first | (simp; done) | (simp; omega) | omega)))) hB1; clear hB1; have q3 : (w'.cell? ⟨w.heap.size, 3, none⟩).isSome = true := (by rw [hc _ _ (by simp; omega)]; simp [go_sem]); have q4 : (w'.cell? ⟨w.heap.size + 1, 0, none⟩).isSome = true := (by rw [hc _ _ (by simp)]; simp [go_sem]); have q5 : (w'.cell? ⟨w.heap.size + 1, 1, none⟩).isSome = true := (by rw [hc _ _ (by simp)]; simp [go_sem]); have q6 : (w'.cell? ⟨w.heap.size + 1, 2, none⟩).isSome = true := (by rw [hc _ _ (by simp)]; simp [go_sem]); have q7 : (w'.cell? ⟨w.heap.size + 1, 3, none⟩).isSome = true := (by rw [hc _ _ (by simp)]; simp [go_sem]))
  refine bodyPost_ret (v := .agg #[.int .u8 x0, .int .u8 x1, .int .i64 x2, .slice Av x4.length cv]) (by simp [results, Try.results22, go_sem, q4, q5, q6, q7]) rfl ⟨[_, _, _, _], rfl, K_inf.2 ⟨Av, cv, rfl, r1, r2, r3, hv1, hv2, Kd.C_hi HO.out ?_ ⟨by simp [Zn.new], by simp [Zn.new]⟩⟩, (by repeat (first | with_reducible exact Below.refl _ _ | with_reducible assumption | with_reducible refine Below.drew ?_ | with_reducible refine below_drewN ?_ _ | (with_reducible refine Below.alloc ?_ ?_ _; rotate_left 1; focus (first | (simp; done) | (simp; omega) | omega)) | (with_reducible refine Below.setCell ?_ ?_ _; rotate_left 1; focus (first | (simp; done) | (simp; omega) | omega))))⟩
  repeat (first | with_reducible refine hi_set ?_ _ _ (by simp) | with_reducible exact hi_refl _ _)
end Go.Proofs.Ytagihamgaidikaa
