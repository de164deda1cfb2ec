/- reedpiperef10.Twin. -/
import Derived.Test.YtagihamgaidikaaGreatf
set_option linter.unusedVariables false
set_option linter.unusedSimpArgs false
namespace Go.Proofs.Ytagihamgaidikaa
open Go.RowKit
set_option maxHeartbeats 1000000
theorem below_none {W w1 : World} (h : W.grownBy w1 none) : Below W.heap.size W w1 := ⟨h.os, h.tape, h.output, h.size, fun k hk => h.block k hk (by simp)⟩
theorem ref10_twin (x : Inf) (cs : List Value) (b : Zn) (w : World) (hx : kInf.K b w x cs) (hb : b.hi ≤ w.heap.size) (hl : x.groups.length * 8 ≤ 140737488355328) :
    Calls Try.prog 41 #[.agg cs.toArray] w fun e w' => ∃ ds, e = .returned (.agg ds.toArray) ∧ kInf.K (Zn.new w) w' x ds ∧ Below w.heap.size w w' := by
  obtain ⟨A0, c0, rfl, r1, r2, r3, _, _, hC⟩ := K_inf.1 hx
  obtain ⟨x0, x1, x2, x4⟩ := x
  have hu := Try.underlying32
  dsimp only at hC hl r1 r2 r3
  clear hx
  have HC := Lib.hid fun (o1 o2 : Obj) => Kd.C_below hC (show Below w.heap.size w ((w.alloc o1).alloc o2) from (by repeat (first | with_reducible exact Below.refl _ _ | with_reducible assumption | with_reducible refine Below.drew ?_ | with_reducible refine below_drewN ?_ _ | (with_reducible refine Below.alloc ?_ ?_ _; rotate_left 1; focus (first | (simp; done) | (simp; omega) | omega)) | (with_reducible refine Below.setCell ?_ ?_ _; rotate_left 1; focus (first | (simp; done) | (simp; omega) | omega)))))
  have hBB := fun (o1 o2 : Obj) => (show Below w.heap.size w ((w.alloc o1).alloc o2) from (by repeat (first | with_reducible exact Below.refl _ _ | with_reducible assumption | with_reducible refine Below.drew ?_ | with_reducible refine below_drewN ?_ _ | (with_reducible refine Below.alloc ?_ ?_ _; rotate_left 1; focus (first | (simp; done) | (simp; omega) | omega)) | (with_reducible refine Below.setCell ?_ ?_ _; rotate_left 1; focus (first | (simp; done) | (simp; omega) | omega)))))
  have HBB := Lib.hid hBB
  clear hC hBB
  go_enter Try.func41, Try.ntmps41
  go_wp2_with (at_builtin; refine append_row (I64) 3 b (w.heap.size + 2) rfl _ _ 30 (.int .i64 0) 1 8 rfl Try.underlying30 (by kernel_rfl) rfl rfl (by decide) (by decide) (by decide) (by omega) _ [] x4 A0 c0 rfl rfl (Kd.O_nil ..) (HC.out _ _) (by simp) (by simpa using hl) ?_; intro v1 w1 h1 h2 h3; clear h3; have hB1 := below_none h2; obtain ⟨Av, cv, rfl, hv1, hv2, hv3⟩ := O_i64 h1 ⟨w.heap.size + 2, 0⟩ (by simp); simp only [List.nil_append] at hv1 hv3; have HO := Lib.hid hv3; have hB0 := below_then (HBB.out _ _) hB1; obtain ⟨hc, hf⟩ := bcell hB1; have q3 : (w1.cell? ⟨w.heap.size, 3, none⟩).isSome = true := (by rw [hc _ _ (by simp; omega)]; simp [go_sem]); have q4 : (w1.cell? ⟨w.heap.size + 1, 0, none⟩).isSome = true := (by rw [hc _ _ (by simp)]; simp [go_sem]); have q5 : (w1.cell? ⟨w.heap.size + 1, 1, none⟩).isSome = true := (by rw [hc _ _ (by simp)]; simp [go_sem]); have q6 : (w1.cell? ⟨w.heap.size + 1, 2, none⟩).isSome = true := (by rw [hc _ _ (by simp)]; simp [go_sem]); have q7 : (w1.cell? ⟨w.heap.size + 1, 3, none⟩).isSome = true := (by rw [hc _ _ (by simp)]; simp [go_sem]); clear h1 h2 hv3 hB1; simp only [List.nil_append])
  refine bodyPost_ret (v := .agg #[.int .u8 x0, .int .u8 x1, .int .i64 x2, .slice Av x4.length cv]) (by simp [results, Try.results41, go_sem, q4, q5, q6, q7]) rfl ⟨[_, _, _, _], rfl, K_inf.2 ⟨Av, cv, rfl, r1, r2, r3, hv1, ‹cv ≤ maxLen›, Kd.C_hi HO.out ?_ ⟨by simp [Zn.new], by simp [Zn.new]⟩⟩, (by repeat (first | with_reducible exact Below.refl _ _ | with_reducible assumption | with_reducible refine Below.drew ?_ | with_reducible refine below_drewN ?_ _ | (with_reducible refine Below.alloc ?_ ?_ _; rotate_left 1; focus (first | (simp; done) | (simp; omega) | omega)) | (with_reducible refine Below.setCell ?_ ?_ _; rotate_left 1; focus (first | (simp; done) | (simp; omega) | omega))))⟩
  repeat (first | with_reducible refine hi_set ?_ _ _ (by simp) | with_reducible exact hi_refl _ _)
end Go.Proofs.Ytagihamgaidikaa
