/- The program's data, as Lean structures, and their kinds. -/
import Derived.Test.YtagihamgaidikaaBase
set_option linter.unusedVariables false
set_option linter.unusedSimpArgs false
namespace Go.Proofs.Ytagihamgaidikaa
open Go.RowKit

structure Sec where
  book : Int
  len : Int
  deriving DecidableEq, Inhabited
structure Filt where
  len : Int
  order : Int
  down : Bool
  fine : Bool
  coefs : List Int
  deriving DecidableEq, Inhabited
structure Inf where
  seq : Int
  shape : Int
  max : Int
  groups : List Int
  deriving DecidableEq, Inhabited
structure Chn where
  gain : Int
  info : Inf
  sections : List (List Sec)
  steps : List (List Int)
  tns : List (List Filt)
  lines : List Int
  deriving DecidableEq, Inhabited
structure Frm where
  chans : List Chn
  common : Bool
  mask : Int
  bands : List (List Bool)
  fill : List Int
  deriving DecidableEq, Inhabited
structure Cfg where
  rate : Int
  chans : Int
  crc : Bool
  bits : Int
  deriving DecidableEq, Inhabited

def I64 : Kd Int := Kd.int .i64
def U8 : Kd Int := Kd.int .u8
/-- A struct that is given by its fields' kind. -/
def kSec : Kd Sec := (Kd.pr I64 I64).iso fun s => (s.book, s.len)
def kFilt : Kd Filt := (Kd.pr I64 (Kd.pr I64 (Kd.pr Kd.bool (Kd.pr Kd.bool (Kd.sl 3 I64))))).iso fun f => (f.len, f.order, f.down, f.fine, f.coefs)
def kInf : Kd Inf := (Kd.pr U8 (Kd.pr U8 (Kd.pr I64 (Kd.sl 3 I64)))).iso fun i => (i.seq, i.shape, i.max, i.groups)
def kChn : Kd Chn := (Kd.pr I64 (Kd.pr kInf (Kd.pr (Kd.sl 50 (Kd.sl 57 kSec)) (Kd.pr (Kd.sl 30 (Kd.sl 3 I64)) (Kd.pr (Kd.sl 51 (Kd.sl 53 kFilt)) (Kd.sl 3 I64)))))).iso
  fun c => (c.gain, c.info, c.sections, c.steps, c.tns, c.lines)
def kFrm : Kd Frm := (Kd.pr (Kd.sl 37 kChn) (Kd.pr Kd.bool (Kd.pr I64 (Kd.pr (Kd.sl 38 (Kd.sl 4 Kd.bool)) (Kd.sl 5 U8))))).iso
  fun f => (f.chans, f.common, f.mask, f.bands, f.fill)

/-! ### Laid open -/
theorem K_sec {b : Zn} {w : World} {s : Sec} {cs : List Value} : kSec.K b w s cs ↔ cs = [.int .i64 s.book, .int .i64 s.len] ∧ Rg .i64 s.book ∧ Rg .i64 s.len := by
  constructor
  · rintro ⟨_, _, rfl, ⟨rfl, h0⟩, rfl, h1⟩; exact ⟨rfl, h0, h1⟩
  · rintro ⟨rfl, h0, h1⟩; exact ⟨_, _, rfl, ⟨rfl, h0⟩, rfl, h1⟩
theorem K_filt {b : Zn} {w : World} {f : Filt} {cs : List Value} : kFilt.K b w f cs ↔ ∃ A c, cs = [.int .i64 f.len, .int .i64 f.order, .bool f.down, .bool f.fine, .slice A f.coefs.length c] ∧
    Rg .i64 f.len ∧ Rg .i64 f.order ∧ f.coefs.length ≤ c ∧ c ≤ maxLen ∧ I64.C 3 b w A f.coefs := by
  constructor
  · rintro ⟨_, _, rfl, ⟨rfl, h0⟩, _, _, rfl, ⟨rfl, h1⟩, _, _, rfl, ⟨rfl, _⟩, _, _, rfl, ⟨rfl, _⟩, A, c, rfl, hl, hm, h⟩
    exact ⟨A, c, rfl, h0, h1, hl, hm, h⟩
  · rintro ⟨A, c, rfl, h0, h1, hl, hm, h⟩
    exact ⟨_, _, rfl, ⟨rfl, h0⟩, _, _, rfl, ⟨rfl, h1⟩, _, _, rfl, ⟨rfl, trivial⟩, _, _, rfl, ⟨rfl, trivial⟩, A, c, rfl, hl, hm, h⟩
theorem K_inf {b : Zn} {w : World} {i : Inf} {cs : List Value} : kInf.K b w i cs ↔ ∃ A c, cs = [.int .u8 i.seq, .int .u8 i.shape, .int .i64 i.max, .slice A i.groups.length c] ∧
    Rg .u8 i.seq ∧ Rg .u8 i.shape ∧ Rg .i64 i.max ∧ i.groups.length ≤ c ∧ c ≤ maxLen ∧ I64.C 3 b w A i.groups := by
  constructor
  · rintro ⟨_, _, rfl, ⟨rfl, h0⟩, _, _, rfl, ⟨rfl, h1⟩, _, _, rfl, ⟨rfl, h2⟩, A, c, rfl, hl, hm, h⟩
    exact ⟨A, c, rfl, h0, h1, h2, hl, hm, h⟩
  · rintro ⟨A, c, rfl, h0, h1, h2, hl, hm, h⟩
    exact ⟨_, _, rfl, ⟨rfl, h0⟩, _, _, rfl, ⟨rfl, h1⟩, _, _, rfl, ⟨rfl, h2⟩, A, c, rfl, hl, hm, h⟩
theorem K_chn {b : Zn} {w : World} {x : Chn} {cs : List Value} : kChn.K b w x cs ↔ ∃ A0 c0 A1 c1 A2 c2 A3 c3 A4 c4,
    cs = [.int .i64 x.gain, .int .u8 x.info.seq, .int .u8 x.info.shape, .int .i64 x.info.max, .slice A0 x.info.groups.length c0, .slice A1 x.sections.length c1, .slice A2 x.steps.length c2, .slice A3 x.tns.length c3, .slice A4 x.lines.length c4] ∧
    Rg .i64 x.gain ∧ (Rg .u8 x.info.seq ∧ Rg .u8 x.info.shape ∧ Rg .i64 x.info.max ∧ x.info.groups.length ≤ c0 ∧ c0 ≤ maxLen ∧ I64.C 3 b w A0 x.info.groups) ∧
    (x.sections.length ≤ c1 ∧ c1 ≤ maxLen ∧ (Kd.sl 57 kSec).C 50 b w A1 x.sections) ∧ (x.steps.length ≤ c2 ∧ c2 ≤ maxLen ∧ (Kd.sl 3 I64).C 30 b w A2 x.steps) ∧
    (x.tns.length ≤ c3 ∧ c3 ≤ maxLen ∧ (Kd.sl 53 kFilt).C 51 b w A3 x.tns) ∧ (x.lines.length ≤ c4 ∧ c4 ≤ maxLen ∧ I64.C 3 b w A4 x.lines) := by
  constructor
  · rintro ⟨_, _, rfl, ⟨rfl, h0⟩, _, _, rfl, hi, _, _, rfl, ⟨A1, c1, rfl, h1⟩, _, _, rfl, ⟨A2, c2, rfl, h2⟩, _, _, rfl, ⟨A3, c3, rfl, h3⟩, A4, c4, rfl, h4⟩
    obtain ⟨A0, c0, rfl, hj⟩ := K_inf.1 hi
    exact ⟨A0, c0, A1, c1, A2, c2, A3, c3, A4, c4, rfl, h0, hj, h1, h2, h3, h4⟩
  · rintro ⟨A0, c0, A1, c1, A2, c2, A3, c3, A4, c4, rfl, h0, hi, h1, h2, h3, h4⟩
    exact ⟨[_], _, rfl, ⟨rfl, h0⟩, [_, _, _, _], _, rfl, K_inf.2 ⟨A0, c0, rfl, hi⟩, [_], _, rfl, ⟨A1, c1, rfl, h1⟩, [_], _, rfl, ⟨A2, c2, rfl, h2⟩, [_], _, rfl, ⟨A3, c3, rfl, h3⟩, A4, c4, rfl, h4⟩
theorem K_frm {b : Zn} {w : World} {x : Frm} {cs : List Value} : kFrm.K b w x cs ↔ ∃ A0 c0 A1 c1 A2 c2,
    cs = [.slice A0 x.chans.length c0, .bool x.common, .int .i64 x.mask, .slice A1 x.bands.length c1, .slice A2 x.fill.length c2] ∧
    (x.chans.length ≤ c0 ∧ c0 ≤ maxLen ∧ kChn.C 37 b w A0 x.chans) ∧ Rg .i64 x.mask ∧
    (x.bands.length ≤ c1 ∧ c1 ≤ maxLen ∧ (Kd.sl 4 Kd.bool).C 38 b w A1 x.bands) ∧ (x.fill.length ≤ c2 ∧ c2 ≤ maxLen ∧ U8.C 5 b w A2 x.fill) := by
  constructor
  · rintro ⟨_, _, rfl, ⟨A0, c0, rfl, h0⟩, _, _, rfl, ⟨rfl, _⟩, _, _, rfl, ⟨rfl, h1⟩, _, _, rfl, ⟨A1, c1, rfl, h2⟩, A2, c2, rfl, h3⟩
    exact ⟨A0, c0, A1, c1, A2, c2, rfl, h0, h1, h2, h3⟩
  · rintro ⟨A0, c0, A1, c1, A2, c2, rfl, h0, h1, h2, h3⟩
    exact ⟨[_], _, rfl, ⟨A0, c0, rfl, h0⟩, [_], _, rfl, ⟨rfl, trivial⟩, [_], _, rfl, ⟨rfl, h1⟩, [_], _, rfl, ⟨A1, c1, rfl, h2⟩, A2, c2, rfl, h3⟩
/-! ### A flat row, by its cells -/
theorem C_int {k : IntKind} {e : Nat} {b : Zn} {w : World} {A : Option Addr} {xs : List Int} (h : (Kd.int k).C e b w A xs) {i : Nat} (hi : i < xs.length) : ∃ g o, A = some ⟨g, o, none⟩ ∧ g < w.heap.size ∧ w.cell? ⟨g, o + i, none⟩ = some (.int k (xs.getD i 0)) ∧ Rg k (xs.getD i 0) := by
  obtain ⟨g, o, cs, hA, hl, ⟨rfl, hr⟩, hc⟩ := Kd.C_at h 0 hi
  have := hc 0 _ rfl
  have e1 : i * (Kd.int k).sz + 0 = i := by show i * 1 + 0 = i; omega
  rw [e1] at this
  exact ⟨g, o, hA, hl, this, hr⟩
theorem C_bool {e : Nat} {b : Zn} {w : World} {A : Option Addr} {xs : List Bool} (h : Kd.bool.C e b w A xs) {i : Nat} (hi : i < xs.length) : ∃ g o, A = some ⟨g, o, none⟩ ∧ g < w.heap.size ∧ w.cell? ⟨g, o + i, none⟩ = some (.bool (xs.getD i false)) := by
  obtain ⟨g, o, cs, hA, hl, ⟨rfl, hr⟩, hc⟩ := Kd.C_at h false hi
  have := hc 0 _ rfl
  have e1 : i * Kd.bool.sz + 0 = i := by show i * 1 + 0 = i; omega
  rw [e1] at this
  exact ⟨g, o, hA, hl, this⟩
theorem C_sl {α : Type} {d : Kd α} {e' e : Nat} {b : Zn} {w : World} {A : Option Addr} {xs : List (List α)} (h : (Kd.sl e' d).C e b w A xs) {i : Nat} (hi : i < xs.length) : ∃ g o A' c', A = some ⟨g, o, none⟩ ∧ g < w.heap.size ∧ w.cell? ⟨g, o + i, none⟩ = some (.slice A' (xs.getD i []).length c') ∧ (xs.getD i []).length ≤ c' ∧ c' ≤ maxLen ∧ d.C e' b w A' (xs.getD i []) := by
  obtain ⟨g, o, cs, hA, hl, ⟨A', c', rfl, hl', hm, hr⟩, hc⟩ := Kd.C_at h [] hi
  have := hc 0 _ rfl
  have e1 : i * (Kd.sl e' d).sz + 0 = i := by show i * 1 + 0 = i; omega
  rw [e1] at this
  exact ⟨g, o, A', c', hA, hl, this, hl', hm, hr⟩
end Go.Proofs.Ytagihamgaidikaa
