/- What came in, opened: a reading of the claim's form as a value of our kinds. -/
import Derived.Test.YtagihamgaidikaaData
import Derived.Deep.Slices
import Derived.Test.YtagihamgaidikaaProg
set_option linter.unusedVariables false
set_option linter.unusedSimpArgs false
namespace Go.Proofs.Ytagihamgaidikaa
open Go.RowKit Go.ChangeShapes Go.WideShapes Go.Deep
def Kd.Op {α : Type} (d : Kd α) (w : World) (cs : List Value) : Prop := ∃ a : α, d.K ⟨0, w.heap.size⟩ w a cs
/-- Whatever reads as type t is of kind d. -/
def Kd.Opens {α : Type} (d : Kd α) (P : Program) (t : TypeId) : Prop :=
  ∀ (H : Type) (enc : TypeId × Value → H) (w : World) (spare : Nat → Bool) (held : Bool) (n : Nat) (cs : List Value) (x : DataW H × List MemPlace), DataW.trod enc P w 0 spare held n t cs = some x → d.Op w cs
namespace Kd
variable {α β : Type} {P : Program}
theorem Op.pr {a : Kd α} {c : Kd β} {w : World} {cs : List Value} {o o' : Nat} (h0 : a.Op w ((cs.drop o).take a.sz)) (h1 : c.Op w (cs.drop o')) (ho : o' = o + a.sz) : (Kd.pr a c).Op w (cs.drop o) := by
  subst ho
  obtain ⟨x, hx⟩ := h0
  obtain ⟨y, hy⟩ := h1
  exact ⟨(x, y), _, _, by rw [← List.drop_drop, List.take_append_drop], hx, hy⟩
theorem Op.last {a : Kd α} {w : World} {cs : List Value} {o : Nat} (h0 : a.Op w ((cs.drop o).take a.sz)) (hl : cs.length = o + a.sz) : a.Op w (cs.drop o) := by
  rwa [List.take_of_length_le (by rw [List.length_drop]; omega)] at h0
theorem Op.iso {d : Kd α} {f : β → α} {w : World} {cs : List Value} (h : d.Op w cs) (g : α → β) (hg : ∀ a, f (g a) = a) : (d.iso f).Op w cs := by
  obtain ⟨a, ha⟩ := h
  exact ⟨g a, by show d.K _ _ (f (g a)) _; rw [hg]; exact ha⟩
theorem opens_i64 {t : TypeId} (ht : P.underlying t = some (.int .i64)) : (Kd.int .i64).Opens P t := fun _ _ _ _ _ _ _ _ h => by
  obtain ⟨n, rfl, _, hw⟩ := DataW.trod_int ht h
  refine ⟨n, rfl, ?_⟩
  simp [Lit.wf, IntKind.min, IntKind.max, IntKind.signed, IntKind.bits] at hw
  show -9223372036854775808 ≤ n ∧ n ≤ 9223372036854775807
  omega
theorem opens_u8 {t : TypeId} (ht : P.underlying t = some (.int .u8)) : (Kd.int .u8).Opens P t := fun _ _ _ _ _ _ _ _ h => by
  obtain ⟨n, rfl, _, hw⟩ := DataW.trod_int ht h
  refine ⟨n, rfl, ?_⟩
  simp [Lit.wf, IntKind.min, IntKind.max, IntKind.signed, IntKind.bits] at hw
  show 0 ≤ n ∧ n ≤ 255
  omega
theorem opens_bool {t : TypeId} (ht : P.underlying t = some .bool) : Kd.bool.Opens P t := fun _ _ _ _ _ _ _ _ h => by
  obtain ⟨b, rfl, _⟩ := DataW.trod_bool ht h
  exact ⟨b, rfl, trivial⟩
theorem opens_sl [Inhabited α] {d : Kd α} {t e : TypeId} (ht : P.underlying t = some (.slice e)) (hc : P.cellsOf e = d.sz) (hs : 0 < d.sz) (hd : d.Opens P e) : (Kd.sl e d).Opens P t := fun H enc w spare held n cs x h => by
  rcases open_slice ht h with ⟨rfl, _⟩ | ⟨a, len, cap, m, n', D, Pl, rfl, _, hl, hm, hmm, _, hx⟩
  · exact ⟨[], none, 0, rfl, Nat.le_refl _, Nat.zero_le _, C_nil ..⟩
  · have hlm : len ≤ m := by rw [hmm]; split <;> omega
    rw [hc] at hx
    obtain ⟨f, hf⟩ := choose_lt (α := α) (n := len) (p := fun i y => ∃ cs', w.cells? 0 (a.add (i * d.sz)) d.sz = some cs' ∧ d.K ⟨0, w.heap.size⟩ w y cs') (fun i hi => by
      obtain ⟨cs', h1, h2⟩ := hx i (by omega)
      obtain ⟨y, hy⟩ := hd _ _ _ _ _ _ _ _ h2
      exact ⟨y, cs', h1, hy⟩)
    refine ⟨(List.range len).map f, some a, cap, by simp, by simpa using hl, hm, by simp only [List.length_map, List.length_range]; simp only [maxLen] at hm; omega, fun i y hy => ?_⟩
    have hi : i < len := by
      have := (List.getElem?_eq_some_iff.1 hy).1
      simpa using this
    have hyf : y = f i := by
      rw [List.getElem?_map, List.getElem?_range hi] at hy
      simpa using hy.symm
    subst hyf
    obtain ⟨cs0, hc0, _⟩ := hf 0 (by omega)
    obtain ⟨cs', h1, h2⟩ := hf i hi
    have hspot : a.spot = none := by
      obtain ⟨_, hlen, hat⟩ := World.cells?_some hc0
      have h0 := hat 0 hs
      rw [show a.add (0 * d.sz) = a by simp [Addr.add], show a.add 0 = a by simp [Addr.add]] at h0
      rcases hsp : a.spot with _ | sp
      · rfl
      · have hn : w.cell? a = none := by
          unfold World.cell?
          cases w.heap[a.block]? with
          | none => rfl
          | some o => cases o <;> simp [hsp]
        rw [hn] at h0
        rw [List.getElem?_eq_getElem (by omega)] at h0
        cases h0
    obtain ⟨g, o, sp⟩ := a
    simp only at hspot
    subst hspot
    obtain ⟨_, hlen, hat⟩ := World.cells?_some h1
    have hcell : ∀ j u, cs'[j]? = some u → w.cell? ⟨g, o + (i * d.sz + j), none⟩ = some u := fun j u hu => by
      have hj := (List.getElem?_eq_some_iff.1 hu).1
      have := hat j (by omega)
      rw [hu, add_add, add_plain] at this
      exact this
    refine ⟨g, o, cs', rfl, ⟨Nat.zero_le _, ?_, ?_⟩, h2, hcell⟩
    all_goals
      have hu : cs'[0]? = some (cs'[0]'(by omega)) := List.getElem?_eq_getElem (by omega)
      have h0 := hcell 0 _ hu
      have hgl : g < w.heap.size := by
        rcases Nat.lt_or_ge g w.heap.size with hlt | hge
        · exact hlt
        · simp [World.cell?, Array.getElem?_eq_none hge] at h0
    · exact hgl
    · exact .inl hgl
end Kd
/-- A struct's field i. -/
theorem field_op {α : Type} {d : Kd α} {P : Program} {H : Type} {enc : TypeId × Value → H} {w : World} {spare : Nat → Bool} {held : Bool} {n : Nat} {cs : List Value} {xs : List (DataW H × List MemPlace)} {fs : Array Field} (hlen : xs.length = fs.size)
    (hf : ∀ (i : Nat) (f : Field), fs[i]? = some f → DataW.trod enc P w 0 spare held n f.type ((cs.drop f.offset).take (P.cellsOf f.type)) = xs[i]?) (i o : Nat) (f : Field) (hi : fs[i]? = some f) (ho : f.offset = o) (hd : d.Opens P f.type) (hs : P.cellsOf f.type = d.sz) : d.Op w ((cs.drop o).take d.sz) := by
  have h := hf i f hi
  rw [ho] at h
  rw [List.getElem?_eq_getElem (by rw [hlen]; exact (Array.getElem?_eq_some_iff.1 hi).1), hs] at h
  exact hd _ _ _ _ _ _ _ _ h
theorem opens_sec : kSec.Opens Try.prog 57 := fun _ _ _ _ _ _ _ _ h => by
  obtain ⟨xs, n, _, _, hl, hlen, hf⟩ := DataW.trod_struct Try.underlying57 h
  replace hl := hl.trans (show Try.prog.cellsOf 57 = 2 from by kernel_rfl)
  have ki := Kd.opens_i64 Try.underlying3
  exact Kd.Op.iso (Kd.Op.pr (o := 0) (field_op hlen hf 0 0 _ rfl rfl ki (by kernel_rfl)) (Kd.Op.last (field_op hlen hf 1 1 _ rfl rfl ki (by kernel_rfl)) hl) rfl) (fun a => ⟨a.1, a.2⟩) (fun _ => rfl)
theorem opens_ints : (Kd.sl 3 I64).Opens Try.prog 30 := Kd.opens_sl Try.underlying30 (by kernel_rfl) (by decide) (Kd.opens_i64 Try.underlying3)
theorem opens_filt : kFilt.Opens Try.prog 53 := fun _ _ _ _ _ _ _ _ h => by
  obtain ⟨xs, n, _, _, hl, hlen, hf⟩ := DataW.trod_struct Try.underlying53 h
  replace hl := hl.trans (show Try.prog.cellsOf 53 = 5 from by kernel_rfl)
  have ki := Kd.opens_i64 Try.underlying3
  have kb := Kd.opens_bool Try.underlying4
  exact Kd.Op.iso (Kd.Op.pr (o := 0) (field_op hlen hf 0 0 _ rfl rfl ki (by kernel_rfl)) (Kd.Op.pr (field_op hlen hf 1 1 _ rfl rfl ki (by kernel_rfl)) (Kd.Op.pr (field_op hlen hf 2 2 _ rfl rfl kb (by kernel_rfl)) (Kd.Op.pr (field_op hlen hf 3 3 _ rfl rfl kb (by kernel_rfl)) (Kd.Op.last (field_op hlen hf 4 4 _ rfl rfl opens_ints (by kernel_rfl)) hl) rfl) rfl) rfl) rfl) (fun a => ⟨a.1, a.2.1, a.2.2.1, a.2.2.2.1, a.2.2.2.2⟩) (fun _ => rfl)
theorem opens_inf : kInf.Opens Try.prog 32 := fun _ _ _ _ _ _ _ _ h => by
  obtain ⟨xs, n, _, _, hl, hlen, hf⟩ := DataW.trod_struct Try.underlying32 h
  replace hl := hl.trans (show Try.prog.cellsOf 32 = 4 from by kernel_rfl)
  have ki := Kd.opens_i64 Try.underlying3
  have ku := Kd.opens_u8 Try.underlying5
  exact Kd.Op.iso (Kd.Op.pr (o := 0) (field_op hlen hf 0 0 _ rfl rfl ku (by kernel_rfl)) (Kd.Op.pr (field_op hlen hf 1 1 _ rfl rfl ku (by kernel_rfl)) (Kd.Op.pr (field_op hlen hf 2 2 _ rfl rfl ki (by kernel_rfl)) (Kd.Op.last (field_op hlen hf 3 3 _ rfl rfl opens_ints (by kernel_rfl)) hl) rfl) rfl) rfl) (fun a => ⟨a.1, a.2.1, a.2.2.1, a.2.2.2⟩) (fun _ => rfl)
theorem opens_chn : kChn.Opens Try.prog 37 := fun _ _ _ _ _ _ _ _ h => by
  obtain ⟨xs, n, _, _, hl, hlen, hf⟩ := DataW.trod_struct Try.underlying37 h
  replace hl := hl.trans (show Try.prog.cellsOf 37 = 9 from by kernel_rfl)
  have ki := Kd.opens_i64 Try.underlying3
  have k1 : (Kd.sl 50 (Kd.sl 57 kSec)).Opens Try.prog 33 := Kd.opens_sl Try.underlying33 (by kernel_rfl) (by decide) (Kd.opens_sl Try.underlying50 (by kernel_rfl) (by decide) opens_sec)
  have k2 : (Kd.sl 30 (Kd.sl 3 I64)).Opens Try.prog 34 := Kd.opens_sl Try.underlying34 (by kernel_rfl) (by decide) opens_ints
  have k3 : (Kd.sl 51 (Kd.sl 53 kFilt)).Opens Try.prog 35 := Kd.opens_sl Try.underlying35 (by kernel_rfl) (by decide) (Kd.opens_sl Try.underlying51 (by kernel_rfl) (by decide) opens_filt)
  exact Kd.Op.iso (Kd.Op.pr (o := 0) (field_op hlen hf 0 0 _ rfl rfl ki (by kernel_rfl)) (Kd.Op.pr (field_op hlen hf 1 1 _ rfl rfl opens_inf (by kernel_rfl)) (Kd.Op.pr (field_op hlen hf 2 5 _ rfl rfl k1 (by kernel_rfl)) (Kd.Op.pr (field_op hlen hf 3 6 _ rfl rfl k2 (by kernel_rfl)) (Kd.Op.pr (field_op hlen hf 4 7 _ rfl rfl k3 (by kernel_rfl)) (Kd.Op.last (field_op hlen hf 5 8 _ rfl rfl opens_ints (by kernel_rfl)) hl) rfl) rfl) rfl) rfl) rfl) (fun a => ⟨a.1, a.2.1, a.2.2.1, a.2.2.2.1, a.2.2.2.2.1, a.2.2.2.2.2⟩) (fun _ => rfl)
theorem opens_frm : kFrm.Opens Try.prog 26 := fun _ _ _ _ _ _ _ _ h => by
  obtain ⟨xs, n, _, _, hl, hlen, hf⟩ := DataW.trod_struct Try.underlying26 h
  replace hl := hl.trans (show Try.prog.cellsOf 26 = 5 from by kernel_rfl)
  have ki := Kd.opens_i64 Try.underlying3
  have kb := Kd.opens_bool Try.underlying4
  have k0 : (Kd.sl 37 kChn).Opens Try.prog 22 := Kd.opens_sl Try.underlying22 (by kernel_rfl) (by decide) opens_chn
  have k1 : (Kd.sl 38 (Kd.sl 4 Kd.bool)).Opens Try.prog 23 := Kd.opens_sl Try.underlying23 (by kernel_rfl) (by decide) (Kd.opens_sl Try.underlying38 (by kernel_rfl) (by decide) kb)
  have k2 : (Kd.sl 5 U8).Opens Try.prog 24 := Kd.opens_sl Try.underlying24 (by kernel_rfl) (by decide) (Kd.opens_u8 Try.underlying5)
  exact Kd.Op.iso (Kd.Op.pr (o := 0) (field_op hlen hf 0 0 _ rfl rfl k0 (by kernel_rfl)) (Kd.Op.pr (field_op hlen hf 1 1 _ rfl rfl kb (by kernel_rfl)) (Kd.Op.pr (field_op hlen hf 2 2 _ rfl rfl ki (by kernel_rfl)) (Kd.Op.pr (field_op hlen hf 3 3 _ rfl rfl k1 (by kernel_rfl)) (Kd.Op.last (field_op hlen hf 4 4 _ rfl rfl k2 (by kernel_rfl)) hl) rfl) rfl) rfl) rfl) (fun a => ⟨a.1, a.2.1, a.2.2.1, a.2.2.2.1, a.2.2.2.2⟩) (fun _ => rfl)
end Go.Proofs.Ytagihamgaidikaa
