/-
  Opening acts: '[]Act', 'Act'.
-/
import Derived.Test.YtfmcbnoldcfcbaaMemB
namespace Go.Proofs.Ytfmcbnoldcfcbaa
open Go.RowKit Go.ChangeShapes Go.WideShapes Go.ChangeAt Go.Deep
set_option maxRecDepth 100000

section
variable {H : Type} {enc : TypeId × Value → H} {W : World}
/-- an act as it was read -/
structure TActV where
  k : Int
  a : Option Addr
  len : Nat
  cap : Nat
  b : List UInt8
  n : Int
instance : Inhabited TActV := ⟨⟨0, none, 0, 0, [], 0⟩⟩
def TActV.cells (A : TActV) : List Value := [.int .u8 A.k, .slice A.a A.len A.cap, .int .i64 A.n]
structure TActV.ok (W : World) (A : TActV) : Prop where
  b : InB W A.a A.len A.cap A.b
  k : 0 ≤ A.k ∧ A.k ≤ 255
  n : -9223372036854775808 ≤ A.n ∧ A.n ≤ 9223372036854775807
theorem tact_cells : Try.prog.cellsOf 33 = 3 := by kernel_rfl
theorem list3' {α : Type} {cs : List α} (h : cs.length = 3) : ∃ c0 c1 c2, cs = [c0, c1, c2] := by
  match cs, h with
  | [c0, c1, c2], _ => exact ⟨c0, c1, c2, rfl⟩
theorem tact_of {n : Nat} {cs : List Value} {x : DataW H × List MemPlace} (hf : DataW.trod enc Try.prog W 0 (fun _ => true) true n 33 cs = some x) :
    ∃ A : TActV, cs = A.cells ∧ A.ok W := by
  obtain ⟨xs, n, _, _, hl, hlen, hff⟩ := DataW.trod_struct Try.underlying33 hf
  rw [tact_cells] at hl
  obtain ⟨c0, c1, c2, hcs⟩ := list3' hl
  obtain ⟨y0, y1, y2, hxs⟩ := list3' (cs := xs) (by simpa using hlen)
  rw [hcs, hxs] at hff
  have k1 : Try.prog.cellsOf 5 = 1 := by kernel_rfl
  have k2 : Try.prog.cellsOf 27 = 1 := by kernel_rfl
  have k3 : Try.prog.cellsOf 2 = 1 := by kernel_rfl
  have u0 : DataW.trod enc Try.prog W 0 (fun _ => true) true n 5 [c0] = some y0 := by
    have h := hff 0 _ (by rfl)
    simpa [k1, k2, k3] using h
  have u1 : DataW.trod enc Try.prog W 0 (fun _ => true) true n 27 [c1] = some y1 := by
    have h := hff 1 _ (by rfl)
    simpa [k1, k2, k3] using h
  have u2 : DataW.trod enc Try.prog W 0 (fun _ => true) true n 2 [c2] = some y2 := by
    have h := hff 2 _ (by rfl)
    simpa [k1, k2, k3] using h
  obtain ⟨i0, h0, w0⟩ := DataW.trod_int Try.underlying5 u0
  obtain ⟨a, len, cap, l, hb, hin⟩ := bytes_of u1
  obtain ⟨i2, h2, w2⟩ := DataW.trod_int Try.underlying2 u2
  simp only [List.cons.injEq, and_true] at h0 hb h2
  subst h0 hb h2
  refine ⟨⟨i0, a, len, cap, l, i2⟩, hcs, hin, ?_, ?_⟩
  · simpa [Lit.wf, IntKind.min, IntKind.max, IntKind.signed, IntKind.bits] using w0.2
  · simpa [Lit.wf, IntKind.min, IntKind.max, IntKind.signed, IntKind.bits] using w2.2
/-- an act at its place -/
def TActAt (W : World) (a : Option Addr) (i : Nat) (A : TActV) : Prop :=
  ∃ b o, a = some ⟨b, o, none⟩ ∧ W.cell? ⟨b, o + i * 3, none⟩ = some (.int .u8 A.k) ∧ W.cell? ⟨b, o + i * 3 + 1, none⟩ = some (.slice A.a A.len A.cap) ∧ W.cell? ⟨b, o + i * 3 + 2, none⟩ = some (.int .i64 A.n) ∧ A.ok W
theorem open_tact {base : Nat} {v : Value} {d : DataW H} {p : List MemPlace}
    (hval : Value.okWide Try.prog W .any base 33 v) (h : DataW.Trod enc Try.prog W 0 (fun _ => true) true 33 v d p) :
    ∃ A : TActV, v = .agg #[.int .u8 A.k, .slice A.a A.len A.cap, .int .i64 A.n] ∧ A.ok W := by
  obtain ⟨cs, rfl, hsz⟩ := okWide_struct Try.underlying33 hval
  obtain ⟨fuel, hf⟩ := h
  obtain ⟨y, hcs, hok⟩ := tact_of hf
  refine ⟨y, ?_, hok⟩
  obtain ⟨l⟩ := cs
  simp only [Value.cells, TActV.cells] at hcs
  rw [show l = [.int .u8 y.k, .slice y.a y.len y.cap, .int .i64 y.n] from hcs]
theorem open_tacts {base : Nat} {v : Value} {d : DataW H} {p : List MemPlace}
    (hval : Value.okWide Try.prog W .any base 22 v) (h : DataW.Trod enc Try.prog W 0 (fun _ => true) true 22 v d p) :
    ∃ (a : Option Addr) (len cap : Nat) (A : Nat → TActV), v = .slice a len cap ∧ len ≤ maxLen ∧ ∀ i, i < len → TActAt W a i (A i) := by
  obtain ⟨a, len, cap, rfl⟩ := okWide_slice Try.underlying22 hval
  obtain ⟨fuel, hf⟩ := h
  rcases open_slice Try.underlying22 hf with ⟨hcs, _⟩ | ⟨x, l, c, m, n, D, Pl, hcs, _, hl, hm, hmm, _, hall⟩
  · simp [Value.cells] at hcs
    obtain ⟨rfl, rfl, rfl⟩ := hcs
    exact ⟨none, 0, 0, fun _ => default, rfl, by simp [maxLen], fun i hi => by omega⟩
  · simp [Value.cells] at hcs
    obtain ⟨rfl, rfl, rfl⟩ := hcs
    rw [tact_cells] at hall
    simp only [if_true] at hmm
    subst hmm
    obtain ⟨A, hA⟩ := choose_lt (α := TActV) (n := m) (p := fun i A => W.cells? 0 (x.add (i * 3)) 3 = some A.cells ∧ A.ok W) (fun i hi => by
      obtain ⟨cs', h1, h2⟩ := hall i hi
      obtain ⟨A, rfl, hok⟩ := tact_of h2
      exact ⟨A, h1, hok⟩)
    refine ⟨_, _, _, A, rfl, by omega, fun i hi => ?_⟩
    obtain ⟨h1, hok⟩ := hA i (by omega)
    have h2 := (World.cells?_some h1).2.2
    have s0 : x.spot = none := by
      have := (World.cells?_some (hA 0 (by omega)).1).2.2 0 (by omega)
      have hq : W.cell? x = some (.int .u8 (A 0).k) := by simpa [Addr.add, TActV.cells] using this
      exact World.cell?_spot hq
    obtain ⟨b, o, s⟩ := x
    simp only at s0
    subst s0
    refine ⟨b, o, rfl, ?_, ?_, ?_, hok⟩
    · have := h2 0 (by omega); rw [Addr.add_lit, Addr.add_lit] at this; exact this
    · have := h2 1 (by omega); rw [Addr.add_lit, Addr.add_lit] at this; exact this
    · have := h2 2 (by omega); rw [Addr.add_lit, Addr.add_lit] at this; exact this
end

end Go.Proofs.Ytfmcbnoldcfcbaa
