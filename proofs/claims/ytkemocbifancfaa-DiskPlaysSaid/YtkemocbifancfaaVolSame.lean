/-
  'same' of the laws of volumes.
-/
import Derived.Test.YtkemocbifancfaaVolRef
import Derived.StillTailTactics
import Derived.Deep.QuietTactic
import Derived.BigQuiet
import Derived.Deep.RegionHeldLaw
namespace Go.Proofs.Ytkemocbifancfaa
open Go.RowKit
set_option maxRecDepth 100000

theorem RVB.at {w : World} {X : Nat → Prop} {a : Option Addr} {bs : List (List UInt8)} (h : RVB w X a bs) (i : Nat) (hi : i < bs.length) :
    ∃ b o, a = some ⟨b, o, none⟩ ∧ ∃ a' n c, w.cell? ⟨b, o + i, none⟩ = some (.slice a' n c) ∧ bs[i].length = n ∧ RB w a' bs[i] := by
  obtain ⟨b, o, e, _, a', n, c, h1, h2, h3⟩ := h i hi
  exact ⟨b, o, e, a', n, c, h1, h2, h3.rb⟩

end Go.Proofs.Ytkemocbifancfaa
