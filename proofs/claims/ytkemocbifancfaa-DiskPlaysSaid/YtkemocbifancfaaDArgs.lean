/-
  Opening acts and a tail: '[]Act', 'Act', 'Tail'.
-/
import Derived.Test.YtkemocbifancfaaDWorks
namespace Go.Proofs.Ytkemocbifancfaa
open Go.RowKit Go.ChangeShapes Go.WideShapes Go.ChangeAt Go.Deep
set_option maxRecDepth 100000

section
variable {H : Type} {enc : TypeId × Value → H} {W : World}
/-- an act as it was read -/
structure DActV where
  k : Int
  i : Int
  t : Int
  n : Int
  a : Option Addr
  len : Nat
  cap : Nat
  b : List UInt8
instance : Inhabited DActV := ⟨⟨0, 0, 0, 0, none, 0, 0, []⟩⟩
def DActV.cells (A : DActV) : List Value := [.int .u8 A.k, .int .i64 A.i, .int .i64 A.t, .int .i64 A.n, .slice A.a A.len A.cap]
structure DActV.ok (W : World) (A : DActV) : Prop where
  b : InB W A.a A.len A.cap A.b
  k : 0 ≤ A.k ∧ A.k ≤ 255
  i : -9223372036854775808 ≤ A.i ∧ A.i ≤ 9223372036854775807
  t : -9223372036854775808 ≤ A.t ∧ A.t ≤ 9223372036854775807
  n : -9223372036854775808 ≤ A.n ∧ A.n ≤ 9223372036854775807
theorem dact_cells : Try.prog.cellsOf 27 = 5 := by kernel_rfl
theorem list5' {α : Type} {cs : List α} (h : cs.length = 5) : ∃ c0 c1 c2 c3 c4, cs = [c0, c1, c2, c3, c4] := by
  match cs, h with
  | [c0, c1, c2, c3, c4], _ => exact ⟨c0, c1, c2, c3, c4, rfl⟩
theorem list4' {α : Type} {cs : List α} (h : cs.length = 4) : ∃ c0 c1 c2 c3, cs = [c0, c1, c2, c3] := by
  match cs, h with
  | [c0, c1, c2, c3], _ => exact ⟨c0, c1, c2, c3, rfl⟩
theorem dact_of {n : Nat} {cs : List Value} {x : DataW H × List MemPlace} (hf : DataW.trod enc Try.prog W 0 (fun _ => true) true n 27 cs = some x) :
    ∃ A : DActV, cs = A.cells ∧ A.ok W := by
  obtain ⟨xs, n, _, _, hl, hlen, hff⟩ := DataW.trod_struct Try.underlying27 hf
  rw [dact_cells] at hl
  obtain ⟨c0, c1, c2, c3, c4, hcs⟩ := list5' hl
  obtain ⟨y0, y1, y2, y3, y4, hxs⟩ := list5' (cs := xs) (by simpa using hlen)
  rw [hcs, hxs] at hff
  have k1 : Try.prog.cellsOf 5 = 1 := by kernel_rfl
  have k2 : Try.prog.cellsOf 23 = 1 := by kernel_rfl
  have k3 : Try.prog.cellsOf 2 = 1 := by kernel_rfl
  have k4 : Try.prog.cellsOf 3 = 1 := by kernel_rfl
  have u0 : DataW.trod enc Try.prog W 0 (fun _ => true) true n 5 [c0] = some y0 := by
    have h := hff 0 _ (by rfl)
    simpa [k1, k2, k3, k4] using h
  have u1 : DataW.trod enc Try.prog W 0 (fun _ => true) true n 3 [c1] = some y1 := by
    have h := hff 1 _ (by rfl)
    simpa [k1, k2, k3, k4] using h
  have u2 : DataW.trod enc Try.prog W 0 (fun _ => true) true n 3 [c2] = some y2 := by
    have h := hff 2 _ (by rfl)
    simpa [k1, k2, k3, k4] using h
  have u3 : DataW.trod enc Try.prog W 0 (fun _ => true) true n 2 [c3] = some y3 := by
    have h := hff 3 _ (by rfl)
    simpa [k1, k2, k3, k4] using h
  have u4 : DataW.trod enc Try.prog W 0 (fun _ => true) true n 23 [c4] = some y4 := by
    have h := hff 4 _ (by rfl)
    simpa [k1, k2, k3, k4] using h
  obtain ⟨i0, h0, w0⟩ := DataW.trod_int Try.underlying5 u0
  obtain ⟨i1, h1, w1⟩ := DataW.trod_int Try.underlying3 u1
  obtain ⟨i2, h2, w2⟩ := DataW.trod_int Try.underlying3 u2
  obtain ⟨i3, h3, w3⟩ := DataW.trod_int Try.underlying2 u3
  obtain ⟨a, len, cap, l, hb, hin⟩ := bytes_of u4
  simp only [List.cons.injEq, and_true] at h0 h1 h2 h3 hb
  subst h0 h1 h2 h3 hb
  refine ⟨⟨i0, i1, i2, i3, a, len, cap, l⟩, hcs, hin, ?_, ?_, ?_, ?_⟩
  · simpa [Lit.wf, IntKind.min, IntKind.max, IntKind.signed, IntKind.bits] using w0.2
  · simpa [Lit.wf, IntKind.min, IntKind.max, IntKind.signed, IntKind.bits] using w1.2
  · simpa [Lit.wf, IntKind.min, IntKind.max, IntKind.signed, IntKind.bits] using w2.2
  · simpa [Lit.wf, IntKind.min, IntKind.max, IntKind.signed, IntKind.bits] using w3.2
/-- a tail as it was read -/
structure DTailV where
  a : Option Addr
  an : Nat
  ac : Nat
  al : List UInt8
  b : Option Addr
  bn : Nat
  bc : Nat
  bl : List UInt8
  keep : Int
  tear : Int
def DTailV.cells (A : DTailV) : List Value := [.slice A.a A.an A.ac, .slice A.b A.bn A.bc, .int .u8 A.keep, .int .u8 A.tear]
structure DTailV.ok (W : World) (A : DTailV) : Prop where
  a : InB W A.a A.an A.ac A.al
  b : InB W A.b A.bn A.bc A.bl
  keep : 0 ≤ A.keep ∧ A.keep ≤ 255
  tear : 0 ≤ A.tear ∧ A.tear ≤ 255
theorem dtail_cells : Try.prog.cellsOf 25 = 4 := by kernel_rfl
theorem dtail_of {n : Nat} {cs : List Value} {x : DataW H × List MemPlace} (hf : DataW.trod enc Try.prog W 0 (fun _ => true) true n 25 cs = some x) :
    ∃ A : DTailV, cs = A.cells ∧ A.ok W := by
  obtain ⟨xs, n, _, _, hl, hlen, hff⟩ := DataW.trod_struct Try.underlying25 hf
  rw [dtail_cells] at hl
  obtain ⟨c0, c1, c2, c3, hcs⟩ := list4' hl
  obtain ⟨y0, y1, y2, y3, hxs⟩ := list4' (cs := xs) (by simpa using hlen)
  rw [hcs, hxs] at hff
  have k1 : Try.prog.cellsOf 5 = 1 := by kernel_rfl
  have k2 : Try.prog.cellsOf 23 = 1 := by kernel_rfl
  have u0 : DataW.trod enc Try.prog W 0 (fun _ => true) true n 23 [c0] = some y0 := by
    have h := hff 0 _ (by rfl)
    simpa [k1, k2] using h
  have u1 : DataW.trod enc Try.prog W 0 (fun _ => true) true n 23 [c1] = some y1 := by
    have h := hff 1 _ (by rfl)
    simpa [k1, k2] using h
  have u2 : DataW.trod enc Try.prog W 0 (fun _ => true) true n 5 [c2] = some y2 := by
    have h := hff 2 _ (by rfl)
    simpa [k1, k2] using h
  have u3 : DataW.trod enc Try.prog W 0 (fun _ => true) true n 5 [c3] = some y3 := by
    have h := hff 3 _ (by rfl)
    simpa [k1, k2] using h
  obtain ⟨a, len, cap, l, hb, hin⟩ := bytes_of u0
  obtain ⟨a', len', cap', l', hb', hin'⟩ := bytes_of u1
  obtain ⟨i2, h2, w2⟩ := DataW.trod_int Try.underlying5 u2
  obtain ⟨i3, h3, w3⟩ := DataW.trod_int Try.underlying5 u3
  simp only [List.cons.injEq, and_true] at hb hb' h2 h3
  subst hb hb' h2 h3
  refine ⟨⟨a, len, cap, l, a', len', cap', l', i2, i3⟩, hcs, hin, hin', ?_, ?_⟩
  · simpa [Lit.wf, IntKind.min, IntKind.max, IntKind.signed, IntKind.bits] using w2.2
  · simpa [Lit.wf, IntKind.min, IntKind.max, IntKind.signed, IntKind.bits] using w3.2
theorem open_dtail {base : Nat} {v : Value} {d : DataW H} {p : List MemPlace}
    (hval : Value.okWide Try.prog W .any base 25 v) (h : DataW.Trod enc Try.prog W 0 (fun _ => true) true 25 v d p) :
    ∃ A : DTailV, v = .agg #[.slice A.a A.an A.ac, .slice A.b A.bn A.bc, .int .u8 A.keep, .int .u8 A.tear] ∧ A.ok W := by
  obtain ⟨cs, rfl, hsz⟩ := okWide_struct Try.underlying25 hval
  obtain ⟨fuel, hf⟩ := h
  obtain ⟨y, hcs, hok⟩ := dtail_of hf
  refine ⟨y, ?_, hok⟩
  obtain ⟨l⟩ := cs
  simp only [Value.cells, DTailV.cells] at hcs
  rw [show l = [.slice y.a y.an y.ac, .slice y.b y.bn y.bc, .int .u8 y.keep, .int .u8 y.tear] from hcs]
/-- an act at its place -/
def DActAt (W : World) (a : Option Addr) (i : Nat) (A : DActV) : Prop :=
  ∃ b o, a = some ⟨b, o, none⟩ ∧ W.cell? ⟨b, o + i * 5, none⟩ = some (.int .u8 A.k) ∧ W.cell? ⟨b, o + i * 5 + 1, none⟩ = some (.int .i64 A.i) ∧ W.cell? ⟨b, o + i * 5 + 2, none⟩ = some (.int .i64 A.t) ∧ W.cell? ⟨b, o + i * 5 + 3, none⟩ = some (.int .i64 A.n) ∧ W.cell? ⟨b, o + i * 5 + 4, none⟩ = some (.slice A.a A.len A.cap) ∧ A.ok W
theorem open_dact {base : Nat} {v : Value} {d : DataW H} {p : List MemPlace}
    (hval : Value.okWide Try.prog W .any base 27 v) (h : DataW.Trod enc Try.prog W 0 (fun _ => true) true 27 v d p) :
    ∃ A : DActV, v = .agg #[.int .u8 A.k, .int .i64 A.i, .int .i64 A.t, .int .i64 A.n, .slice A.a A.len A.cap] ∧ A.ok W := by
  obtain ⟨cs, rfl, hsz⟩ := okWide_struct Try.underlying27 hval
  obtain ⟨fuel, hf⟩ := h
  obtain ⟨y, hcs, hok⟩ := dact_of hf
  refine ⟨y, ?_, hok⟩
  obtain ⟨l⟩ := cs
  simp only [Value.cells, DActV.cells] at hcs
  rw [show l = [.int .u8 y.k, .int .i64 y.i, .int .i64 y.t, .int .i64 y.n, .slice y.a y.len y.cap] from hcs]
theorem open_dacts {base : Nat} {v : Value} {d : DataW H} {p : List MemPlace}
    (hval : Value.okWide Try.prog W .any base 22 v) (h : DataW.Trod enc Try.prog W 0 (fun _ => true) true 22 v d p) :
    ∃ (a : Option Addr) (len cap : Nat) (A : Nat → DActV), v = .slice a len cap ∧ len ≤ maxLen ∧ ∀ i, i < len → DActAt W a i (A i) := by
  obtain ⟨a, len, cap, rfl⟩ := okWide_slice Try.underlying22 hval
  obtain ⟨fuel, hf⟩ := h
  rcases open_slice Try.underlying22 hf with ⟨hcs, _⟩ | ⟨x, l, c, m, n, D, Pl, hcs, _, hl, hm, hmm, _, hall⟩
  · simp [Value.cells] at hcs
    obtain ⟨rfl, rfl, rfl⟩ := hcs
    exact ⟨none, 0, 0, fun _ => default, rfl, by simp [maxLen], fun i hi => by omega⟩
  · simp [Value.cells] at hcs
    obtain ⟨rfl, rfl, rfl⟩ := hcs
    rw [dact_cells] at hall
    simp only [if_true] at hmm
    subst hmm
    obtain ⟨A, hA⟩ := choose_lt (α := DActV) (n := m) (p := fun i A => W.cells? 0 (x.add (i * 5)) 5 = some A.cells ∧ A.ok W) (fun i hi => by
      obtain ⟨cs', h1, h2⟩ := hall i hi
      obtain ⟨A, rfl, hok⟩ := dact_of h2
      exact ⟨A, h1, hok⟩)
    refine ⟨_, _, _, A, rfl, by omega, fun i hi => ?_⟩
    obtain ⟨h1, hok⟩ := hA i (by omega)
    have h2 := (World.cells?_some h1).2.2
    have s0 : x.spot = none := by
      have := (World.cells?_some (hA 0 (by omega)).1).2.2 0 (by omega)
      have hq : W.cell? x = some (.int .u8 (A 0).k) := by simpa [Addr.add, DActV.cells] using this
      exact World.cell?_spot hq
    obtain ⟨b, o, s⟩ := x
    simp only at s0
    subst s0
    refine ⟨b, o, rfl, ?_, ?_, ?_, ?_, ?_, hok⟩
    · have := h2 0 (by omega); rw [Addr.add_lit, Addr.add_lit] at this; exact this
    · have := h2 1 (by omega); rw [Addr.add_lit, Addr.add_lit] at this; exact this
    · have := h2 2 (by omega); rw [Addr.add_lit, Addr.add_lit] at this; exact this
    · have := h2 3 (by omega); rw [Addr.add_lit, Addr.add_lit] at this; exact this
    · have := h2 4 (by omega); rw [Addr.add_lit, Addr.add_lit] at this; exact this
end

end Go.Proofs.Ytkemocbifancfaa
