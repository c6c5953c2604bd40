/-
  Opening acts: '[]Act', 'Act'.
-/
import Derived.Test.YtnikeceeclfnpaaMem
import Derived.Deep.Slices
import Derived.Lib.SmallJoins
namespace Go.Proofs.Ytnikeceeclfnpaa
open Go.RowKit Go.ChangeShapes Go.WideShapes Go.ChangeAt Go.Deep

section
variable {H : Type} {enc : TypeId × Value → H} {W : World}

/-- bytes in a cell that was read -/
theorem bytes_of {n : Nat} {c : Value} {x : DataW H × List MemPlace} (hf : DataW.trod enc Try.prog W 0 (fun _ => true) true n 33 [c] = some x) :
    ∃ a len cap l, c = .slice a len cap ∧ InB W a len cap l := by
  rcases open_ints Try.underlying33 Try.underlying5 (by kernel_rfl) hf with ⟨hcs, _⟩ | ⟨x, len, cap, zs, hcs, _, hl, hm, hz, hx, hcell, hwz⟩
  · simp at hcs
    subst hcs
    exact ⟨none, 0, 0, [], rfl, rfl, by omega, by simp [maxLen], fun _ => rfl, RB.nil _ _⟩
  · simp at hcs
    subst hcs
    have hzl : zs.length = cap := by simpa using hz
    obtain ⟨bs, rfl⟩ := bytes_of_wf zs hwz
    rw [List.length_map] at hzl
    refine ⟨_, _, _, bs.take len, rfl, ?_, hl, hm, (fun h => by cases h), ?_⟩
    · rw [List.length_take]; omega
    · intro i hi
      rw [List.length_take] at hi
      have h0 := hcell 0 (by rw [List.length_map]; omega)
      have hs : x.spot = none := by simpa [Addr.add] using World.cell?_spot h0
      obtain ⟨b, o, s⟩ := x
      simp only at hs
      subst hs
      refine ⟨b, o, rfl, ?_⟩
      have hi' := hcell i (by rw [List.length_map]; omega)
      rw [Addr.add_lit] at hi'
      rw [hi']
      simp [bval, List.getElem_take, show i < bs.length by omega]

/-- an act as it was read -/
structure ActV where
  i : Int
  a : Option Addr
  len : Nat
  cap : Nat
  b : List UInt8
  t : Bool
  n : Int
instance : Inhabited ActV := ⟨⟨0, none, 0, 0, [], false, 0⟩⟩
def ActV.cells (A : ActV) : List Value := [.int .i64 A.i, .slice A.a A.len A.cap, .bool A.t, .int .i64 A.n]
def ActV.ok (W : World) (A : ActV) : Prop := InB W A.a A.len A.cap A.b

theorem act_cells : Try.prog.cellsOf 35 = 4 := by kernel_rfl

theorem list4 {α : Type} {cs : List α} (h : cs.length = 4) : ∃ c0 c1 c2 c3, cs = [c0, c1, c2, c3] := by
  match cs, h with
  | [c0, c1, c2, c3], _ => exact ⟨c0, c1, c2, c3, rfl⟩

theorem act_of {n : Nat} {cs : List Value} {x : DataW H × List MemPlace} (hf : DataW.trod enc Try.prog W 0 (fun _ => true) true n 35 cs = some x) :
    ∃ A : ActV, cs = A.cells ∧ A.ok W := by
  obtain ⟨y0, y1, y2, y3, m, rfl, hl, u0, u1, u2, u3⟩ := Joins.trod_struct4 Try.underlying35 hf
  rw [act_cells] at hl
  obtain ⟨c0, c1, c2, c3, rfl⟩ := list4 hl
  have k1 : Try.prog.cellsOf 3 = 1 := by kernel_rfl
  have k2 : Try.prog.cellsOf 33 = 1 := by kernel_rfl
  have k3 : Try.prog.cellsOf 4 = 1 := by kernel_rfl
  simp only [k1, k2, k3, List.drop, List.take] at u0 u1 u2 u3
  obtain ⟨i, hi, _⟩ := DataW.trod_int Try.underlying3 u0
  obtain ⟨a, len, cap, l, hb, hin⟩ := bytes_of u1
  obtain ⟨t, ht, _⟩ := DataW.trod_bool Try.underlying4 u2
  obtain ⟨q, hq, _⟩ := DataW.trod_int Try.underlying3 u3
  simp only [List.cons.injEq, and_true] at hi hb ht hq
  subst hi hb ht hq
  exact ⟨⟨i, a, len, cap, l, t, q⟩, rfl, hin⟩

/-- an act at its place -/
def ActAt (W : World) (a : Option Addr) (i : Nat) (A : ActV) : Prop :=
  ∃ b o, a = some ⟨b, o, none⟩ ∧ W.cell? ⟨b, o + i * 4, none⟩ = some (.int .i64 A.i) ∧ W.cell? ⟨b, o + i * 4 + 1, none⟩ = some (.slice A.a A.len A.cap) ∧
    W.cell? ⟨b, o + i * 4 + 2, none⟩ = some (.bool A.t) ∧ W.cell? ⟨b, o + i * 4 + 3, none⟩ = some (.int .i64 A.n) ∧ A.ok W

theorem open_acts {base : Nat} {v : Value} {d : DataW H} {p : List MemPlace}
    (hval : Value.okWide Try.prog W .any base 22 v) (h : DataW.Trod enc Try.prog W 0 (fun _ => true) true 22 v d p) :
    ∃ (a : Option Addr) (len cap : Nat) (A : Nat → ActV), v = .slice a len cap ∧ len ≤ maxLen ∧ ∀ i, i < len → ActAt W a i (A i) := by
  obtain ⟨a, len, cap, rfl⟩ := okWide_slice Try.underlying22 hval
  obtain ⟨fuel, hf⟩ := h
  rcases open_slice Try.underlying22 hf with ⟨hcs, _⟩ | ⟨x, l, c, m, n, D, Pl, hcs, _, hl, hm, hmm, _, hall⟩
  · simp [Value.cells] at hcs
    obtain ⟨rfl, rfl, rfl⟩ := hcs
    exact ⟨none, 0, 0, fun _ => default, rfl, by simp [maxLen], fun i hi => by omega⟩
  · simp [Value.cells] at hcs
    obtain ⟨rfl, rfl, rfl⟩ := hcs
    rw [act_cells] at hall
    simp only [if_true] at hmm
    subst hmm
    obtain ⟨A, hA⟩ := choose_lt (α := ActV) (n := m) (p := fun i A => W.cells? 0 (x.add (i * 4)) 4 = some A.cells ∧ A.ok W) (fun i hi => by
      obtain ⟨cs', h1, h2⟩ := hall i hi
      obtain ⟨A, rfl, hok⟩ := act_of h2
      exact ⟨A, h1, hok⟩)
    refine ⟨_, _, _, A, rfl, by omega, fun i hi => ?_⟩
    obtain ⟨h1, hok⟩ := hA i (by omega)
    have h2 := (World.cells?_some h1).2.2
    have s0 : x.spot = none := by
      have := (World.cells?_some (hA 0 (by omega)).1).2.2 0 (by omega)
      have hq : W.cell? x = some (.int .i64 (A 0).i) := by simpa [Addr.add, ActV.cells] using this
      exact World.cell?_spot hq
    obtain ⟨b, o, s⟩ := x
    simp only at s0
    subst s0
    refine ⟨b, o, rfl, ?_, ?_, ?_, ?_, hok⟩
    · have := h2 0 (by omega); rw [Addr.add_lit, Addr.add_lit] at this; exact this
    · have := h2 1 (by omega); rw [Addr.add_lit, Addr.add_lit] at this; exact this
    · have := h2 2 (by omega); rw [Addr.add_lit, Addr.add_lit] at this; exact this
    · have := h2 3 (by omega); rw [Addr.add_lit, Addr.add_lit] at this; exact this
end
end Go.Proofs.Ytnikeceeclfnpaa
