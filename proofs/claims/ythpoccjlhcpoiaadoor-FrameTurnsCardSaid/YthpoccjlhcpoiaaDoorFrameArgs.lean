/-
  Opening lists of byte slices: '[][]byte'.
-/
import Derived.Test.YthpoccjlhcpoiaaDoorSlots
import Derived.Deep.Slices
import Derived.Lib.SmallJoins
namespace Go.Proofs.YthpoccjlhcpoiaaDoor
open Go.RowKit Go.ChangeShapes Go.WideShapes Go.ChangeAt Go.Deep

/-- a slice of bytes as it was read -/
structure SliceV where
  a : Option Addr
  len : Nat
  cap : Nat
  b : List UInt8
instance : Inhabited SliceV := ⟨⟨none, 0, 0, []⟩⟩
/-- a slice of bytes at its place in a list -/
def SliceAt (W : World) (a : Option Addr) (i : Nat) (A : SliceV) : Prop :=
  ∃ b o, a = some ⟨b, o, none⟩ ∧ W.cell? ⟨b, o + i, none⟩ = some (.slice A.a A.len A.cap) ∧ InB W A.a A.len A.cap A.b

section
variable {H : Type} {enc : TypeId × Value → H} {W : World}
theorem slice_cells : Tryd.prog.cellsOf 22 = 1 := by kernel_rfl

theorem slice_of {n : Nat} {cs : List Value} {x : DataW H × List MemPlace} (hl : cs.length = 1) (hf : DataW.trod enc Tryd.prog W 0 (fun _ => true) true n 22 cs = some x) :
    ∃ A : SliceV, cs = [.slice A.a A.len A.cap] ∧ InB W A.a A.len A.cap A.b := by
  match cs, hl with
  | [c], _ =>
    obtain ⟨a, len, cap, l, rfl, h⟩ := bytes_of hf
    exact ⟨⟨a, len, cap, l⟩, rfl, h⟩

theorem open_rows {base : Nat} {v : Value} {d : DataW H} {p : List MemPlace}
    (hval : Value.okWide Tryd.prog W .any base 35 v) (h : DataW.Trod enc Tryd.prog W 0 (fun _ => true) true 35 v d p) :
    ∃ (a : Option Addr) (len cap : Nat) (A : Nat → SliceV), v = .slice a len cap ∧ len ≤ maxLen ∧ ∀ i, i < len → SliceAt W a i (A i) := by
  obtain ⟨a, len, cap, rfl⟩ := okWide_slice Tryd.underlying35 hval
  obtain ⟨fuel, hf⟩ := h
  rcases open_slice Tryd.underlying35 hf with ⟨hcs, _⟩ | ⟨x, l, c, m, n, D, Pl, hcs, _, hl, hm, hmm, _, hall⟩
  · simp [Value.cells] at hcs
    obtain ⟨rfl, rfl, rfl⟩ := hcs
    exact ⟨none, 0, 0, fun _ => default, rfl, by simp [maxLen], fun i hi => by omega⟩
  · simp [Value.cells] at hcs
    obtain ⟨rfl, rfl, rfl⟩ := hcs
    rw [slice_cells] at hall
    simp only [if_true] at hmm
    subst hmm
    obtain ⟨A, hA⟩ := choose_lt (α := SliceV) (n := m) (p := fun i A => W.cells? 0 (x.add (i * 1)) 1 = some [.slice A.a A.len A.cap] ∧ InB W A.a A.len A.cap A.b) (fun i hi => by
      obtain ⟨cs', h1, h2⟩ := hall i hi
      obtain ⟨A, rfl, hok⟩ := slice_of (World.cells?_some h1).2.1 h2
      exact ⟨A, h1, hok⟩)
    refine ⟨_, _, _, A, rfl, by omega, fun i hi => ?_⟩
    obtain ⟨h1, hok⟩ := hA i (by omega)
    have h2 := (World.cells?_some h1).2.2
    have s0 : x.spot = none := by
      have := (World.cells?_some (hA 0 (by omega)).1).2.2 0 (by omega)
      have hq : W.cell? x = some (.slice (A 0).a (A 0).len (A 0).cap) := by simpa [Addr.add] using this
      exact World.cell?_spot hq
    obtain ⟨b, o, s⟩ := x
    simp only at s0
    subst s0
    refine ⟨b, o, rfl, ?_, hok⟩
    have := h2 0 (by omega)
    rw [Addr.add_lit, Addr.add_lit, Nat.mul_one, Nat.add_zero] at this
    exact this
end

end Go.Proofs.YthpoccjlhcpoiaaDoor
