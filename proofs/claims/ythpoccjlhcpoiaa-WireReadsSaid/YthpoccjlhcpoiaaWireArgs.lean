/-
  Opening items: '[]Item', 'Item'.
-/
import Derived.Test.YthpoccjlhcpoiaaMemB
namespace Go.Proofs.Ythpoccjlhcpoiaa
open Go.RowKit Go.ChangeShapes Go.WideShapes Go.ChangeAt Go.Deep

section
variable {H : Type} {enc : TypeId × Value → H} {W : World}

/-- an item as it was read -/
structure ItemV where
  k : UInt8
  x : Nat
  n : Int
  a : Option Addr
  len : Nat
  cap : Nat
  b : List UInt8
instance : Inhabited ItemV := ⟨⟨0, 0, 0, none, 0, 0, []⟩⟩
def ItemV.cells (A : ItemV) : List Value := [.int .u8 (A.k.toNat : Int), .int .u64 (A.x : Int), .int .i64 A.n, .slice A.a A.len A.cap]
structure ItemV.ok (W : World) (A : ItemV) : Prop where
  inb : InB W A.a A.len A.cap A.b
  x : A.x < 18446744073709551616
  n0 : -9223372036854775808 ≤ A.n
  n1 : A.n ≤ 9223372036854775807

theorem item_cells : Try.prog.cellsOf 43 = 4 := by kernel_rfl

theorem list4 {α : Type} {cs : List α} (h : cs.length = 4) : ∃ c0 c1 c2 c3, cs = [c0, c1, c2, c3] := by
  match cs, h with
  | [c0, c1, c2, c3], _ => exact ⟨c0, c1, c2, c3, rfl⟩

theorem item_of {n : Nat} {cs : List Value} {x : DataW H × List MemPlace} (hf : DataW.trod enc Try.prog W 0 (fun _ => true) true n 43 cs = some x) :
    ∃ A : ItemV, cs = A.cells ∧ A.ok W := by
  obtain ⟨y0, y1, y2, y3, m, rfl, hl, u0, u1, u2, u3⟩ := Joins.trod_struct4 Try.underlying43 hf
  rw [item_cells] at hl
  obtain ⟨c0, c1, c2, c3, rfl⟩ := list4 hl
  have k1 : Try.prog.cellsOf 5 = 1 := by kernel_rfl
  have k2 : Try.prog.cellsOf 32 = 1 := by kernel_rfl
  have k3 : Try.prog.cellsOf 3 = 1 := by kernel_rfl
  have k4 : Try.prog.cellsOf 22 = 1 := by kernel_rfl
  simp only [k1, k2, k3, k4, List.drop, List.take] at u0 u1 u2 u3
  obtain ⟨i, hi, wi⟩ := DataW.trod_int Try.underlying5 u0
  obtain ⟨z, hz, wz⟩ := DataW.trod_int Try.underlying32 u1
  obtain ⟨q, hq, wq⟩ := DataW.trod_int Try.underlying3 u2
  obtain ⟨a, len, cap, l, hb, hin⟩ := bytes_of u3
  simp only [List.cons.injEq, and_true] at hi hz hq hb
  subst hi hz hb hq
  have b0 : 0 ≤ i ∧ i ≤ 255 := by simpa [Lit.wf, IntKind.min, IntKind.max, IntKind.signed, IntKind.bits] using wi.2
  have b1 : 0 ≤ z ∧ z ≤ 18446744073709551615 := by simpa [Lit.wf, IntKind.min, IntKind.max, IntKind.signed, IntKind.bits] using wz.2
  have b2 : -9223372036854775808 ≤ q ∧ q ≤ 9223372036854775807 := by simpa [Lit.wf, IntKind.min, IntKind.max, IntKind.signed, IntKind.bits] using wq.2
  obtain ⟨k, rfl⟩ : ∃ k : Nat, i = k := ⟨i.toNat, by omega⟩
  obtain ⟨x, rfl⟩ : ∃ k : Nat, z = k := ⟨z.toNat, by omega⟩
  refine ⟨⟨UInt8.ofNat k, x, q, a, len, cap, l⟩, ?_, ⟨hin, by simp only; omega, b2.1, b2.2⟩⟩
  simp only [ItemV.cells, UInt8.toNat_ofNat']
  rw [Nat.mod_eq_of_lt (by omega)]

/-- an item at its place -/
def ItemAt (W : World) (a : Option Addr) (i : Nat) (A : ItemV) : Prop :=
  ∃ b o, a = some ⟨b, o, none⟩ ∧ W.cell? ⟨b, o + i * 4, none⟩ = some (.int .u8 (A.k.toNat : Int)) ∧ W.cell? ⟨b, o + i * 4 + 1, none⟩ = some (.int .u64 (A.x : Int)) ∧
    W.cell? ⟨b, o + i * 4 + 2, none⟩ = some (.int .i64 A.n) ∧ W.cell? ⟨b, o + i * 4 + 3, none⟩ = some (.slice A.a A.len A.cap) ∧ A.ok W

theorem open_items {base : Nat} {v : Value} {d : DataW H} {p : List MemPlace}
    (hval : Value.okWide Try.prog W .any base 39 v) (h : DataW.Trod enc Try.prog W 0 (fun _ => true) true 39 v d p) :
    ∃ (a : Option Addr) (len cap : Nat) (A : Nat → ItemV), v = .slice a len cap ∧ len ≤ maxLen ∧ ∀ i, i < len → ItemAt W a i (A i) := by
  obtain ⟨a, len, cap, rfl⟩ := okWide_slice Try.underlying39 hval
  obtain ⟨fuel, hf⟩ := h
  rcases open_slice Try.underlying39 hf with ⟨hcs, _⟩ | ⟨x, l, c, m, n, D, Pl, hcs, _, hl, hm, hmm, _, hall⟩
  · simp [Value.cells] at hcs
    obtain ⟨rfl, rfl, rfl⟩ := hcs
    exact ⟨none, 0, 0, fun _ => default, rfl, by simp [maxLen], fun i hi => by omega⟩
  · simp [Value.cells] at hcs
    obtain ⟨rfl, rfl, rfl⟩ := hcs
    rw [item_cells] at hall
    simp only [if_true] at hmm
    subst hmm
    obtain ⟨A, hA⟩ := choose_lt (α := ItemV) (n := m) (p := fun i A => W.cells? 0 (x.add (i * 4)) 4 = some A.cells ∧ A.ok W) (fun i hi => by
      obtain ⟨cs', h1, h2⟩ := hall i hi
      obtain ⟨A, rfl, hok⟩ := item_of h2
      exact ⟨A, h1, hok⟩)
    refine ⟨_, _, _, A, rfl, by omega, fun i hi => ?_⟩
    obtain ⟨h1, hok⟩ := hA i (by omega)
    have h2 := (World.cells?_some h1).2.2
    have s0 : x.spot = none := by
      have := (World.cells?_some (hA 0 (by omega)).1).2.2 0 (by omega)
      have hq : W.cell? x = some (.int .u8 ((A 0).k.toNat : Int)) := by simpa [Addr.add, ItemV.cells] using this
      exact World.cell?_spot hq
    obtain ⟨b, o, s⟩ := x
    simp only at s0
    subst s0
    refine ⟨b, o, rfl, ?_, ?_, ?_, ?_, hok⟩
    · have := h2 0 (by omega); rw [Addr.add_lit, Addr.add_lit] at this; exact this
    · have := h2 1 (by omega); rw [Addr.add_lit, Addr.add_lit] at this; exact this
    · have := h2 2 (by omega); rw [Addr.add_lit, Addr.add_lit] at this; exact this
    · have := h2 3 (by omega); rw [Addr.add_lit, Addr.add_lit] at this; exact this
end
end Go.Proofs.Ythpoccjlhcpoiaa
