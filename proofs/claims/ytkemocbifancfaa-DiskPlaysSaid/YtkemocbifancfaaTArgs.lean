/-
  Opening acts: '[]Act', 'Act'.
-/
import Derived.Test.YtkemocbifancfaaMemB
namespace Go.Proofs.Ytkemocbifancfaa
open Go.RowKit Go.ChangeShapes Go.WideShapes Go.ChangeAt Go.Deep
set_option maxRecDepth 100000

section
variable {H : Type} {enc : TypeId × Value → H} {W : World}
/-- an act as it was read -/
structure TActV where
  k : Int
  a : Option Addr
  len : Nat
  cap : Nat
  b : List UInt8
  n : Int
instance : Inhabited TActV := ⟨⟨0, none, 0, 0, [], 0⟩⟩
def TActV.cells (A : TActV) : List Value := [.int .u8 A.k, .slice A.a A.len A.cap, .int .i64 A.n]
structure TActV.ok (W : World) (A : TActV) : Prop where
  b : InB W A.a A.len A.cap A.b
  k : 0 ≤ A.k ∧ A.k ≤ 255
  n : -9223372036854775808 ≤ A.n ∧ A.n ≤ 9223372036854775807
theorem list3' {α : Type} {cs : List α} (h : cs.length = 3) : ∃ c0 c1 c2, cs = [c0, c1, c2] := by
  match cs, h with
  | [c0, c1, c2], _ => exact ⟨c0, c1, c2, rfl⟩
/-- an act at its place -/
def TActAt (W : World) (a : Option Addr) (i : Nat) (A : TActV) : Prop :=
  ∃ b o, a = some ⟨b, o, none⟩ ∧ W.cell? ⟨b, o + i * 3, none⟩ = some (.int .u8 A.k) ∧ W.cell? ⟨b, o + i * 3 + 1, none⟩ = some (.slice A.a A.len A.cap) ∧ W.cell? ⟨b, o + i * 3 + 2, none⟩ = some (.int .i64 A.n) ∧ A.ok W
end

end Go.Proofs.Ytkemocbifancfaa
