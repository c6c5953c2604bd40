/-
  No cell of these rows narrows 'for every input' (looked for: loops, veiled, ifaces, maps, wideKeys, modest, calm, conditions, laid).
  DERIVED. THE GIVEN ROWS OF THIS SEAT. 7 by the template 'for every input the law returns true; each argument reads behind the call as it read before'; 0 by the template 'total and deterministic' (their statements: YtnikeceeclfnpaaTotals.lean).
  GIVEN WITH THE SEED: the statements are not yours to turn. If you find one false, say at which input.
  Laid BY PROGRAM, IN A SANDBOX (cutbox-rows.mjs): the forced cells as the released guide's own fill.sh prints them over the translation f19f4cd92b7ee5b9… (all of the seat's roots in one cut). By AI agents, Wed Nov 11 2026. No macro, syntax, notation, axiom, sorry.
-/
import Derived.Test.YtnikeceeclfnpaaChecked
import GoSem.Claim
import GoSem.ClaimJoined
import GoSem.ClaimMapViews
import Derived.JoinedTies
import Derived.KernelRfl
namespace Go.Proofs.Ytnikeceeclfnpaa
/- THE CELL 'sum', in the pinned program and in every row, IS THE sha256 OF THE DUMP (.gsa) THAT YtnikeceeclfnpaaProg.lean LOADS. Nothing in Lean hashes anything: it is a label: what it is worth is what the hold of that sum in a sandbox is worth. -/
noncomputable def Try.pinned : Pinned := { name := "ytnikeceeclfnpaa", sum := "f19f4cd92b7ee5b944879875b90aa6469e65063f816efbcb8efb2ff7db9e69a1", checked := Try.checked }
namespace Rows
def none {H : Type} : Left H := { results := [], args := [] }

/-- 'pledgelaw07.VolPlays': WHATEVER THE INPUT: true; the input reads as it did. -/
def volPlaysSpec : ChangeSpec := { name := "volPlays", fn := fun _ => fun
  | [d1, d2, d3] => { results := [.lit (.bool true)], args := [d1, d2, d3] }
  | _ => none }
def volPlaysRow : OpenClaim := { program := "ytnikeceeclfnpaa", sum := "f19f4cd92b7ee5b944879875b90aa6469e65063f816efbcb8efb2ff7db9e69a1", func := "pledge/pledgelaw07.VolPlays", spec := "volPlays", apart := false }
def VolPlaysSaid : Prop := volPlaysRow.holds Try.pinned (OpenSpec.ofChange volPlaysSpec)

/-- ITS FALSE NEIGHBOUR: 'it returns false'. Refute it at one input. -/
def volPlaysWrong : ChangeSpec := { name := "volPlays", fn := fun _ => fun
  | [d1, d2, d3] => { results := [.lit (.bool false)], args := [d1, d2, d3] }
  | _ => none }
def VolPlaysWrongFalsely : Prop := volPlaysRow.holds Try.pinned (OpenSpec.ofChange volPlaysWrong)

/-- 'pledgelaw07.VolNew': WHATEVER THE INPUT: true; the input reads as it did. -/
def volNewSpec : ChangeSpec := { name := "volNew", fn := fun _ => fun
  | [d1, d2] => { results := [.lit (.bool true)], args := [d1, d2] }
  | _ => none }
def volNewRow : OpenClaim := { program := "ytnikeceeclfnpaa", sum := "f19f4cd92b7ee5b944879875b90aa6469e65063f816efbcb8efb2ff7db9e69a1", func := "pledge/pledgelaw07.VolNew", spec := "volNew", apart := false }
def VolNewSaid : Prop := volNewRow.holds Try.pinned (OpenSpec.ofChange volNewSpec)

/-- ITS FALSE NEIGHBOUR: 'it returns false'. Refute it at one input. -/
def volNewWrong : ChangeSpec := { name := "volNew", fn := fun _ => fun
  | [d1, d2] => { results := [.lit (.bool false)], args := [d1, d2] }
  | _ => none }
def VolNewWrongFalsely : Prop := volNewRow.holds Try.pinned (OpenSpec.ofChange volNewWrong)

/-- 'pledgelaw07.VolMends': WHATEVER THE INPUT: true; the input reads as it did. -/
def volMendsSpec : ChangeSpec := { name := "volMends", fn := fun _ => fun
  | [d1, d2, d3] => { results := [.lit (.bool true)], args := [d1, d2, d3] }
  | _ => none }
def volMendsRow : OpenClaim := { program := "ytnikeceeclfnpaa", sum := "f19f4cd92b7ee5b944879875b90aa6469e65063f816efbcb8efb2ff7db9e69a1", func := "pledge/pledgelaw07.VolMends", spec := "volMends", apart := false }
def VolMendsSaid : Prop := volMendsRow.holds Try.pinned (OpenSpec.ofChange volMendsSpec)

/-- ITS FALSE NEIGHBOUR: 'it returns false'. Refute it at one input. -/
def volMendsWrong : ChangeSpec := { name := "volMends", fn := fun _ => fun
  | [d1, d2, d3] => { results := [.lit (.bool false)], args := [d1, d2, d3] }
  | _ => none }
def VolMendsWrongFalsely : Prop := volMendsRow.holds Try.pinned (OpenSpec.ofChange volMendsWrong)

/-- 'pledgelaw07.VolNil': WHATEVER THE INPUT: true; the input reads as it did. -/
def volNilSpec : ChangeSpec := { name := "volNil", fn := fun _ => fun
  | [d1, d2] => { results := [.lit (.bool true)], args := [d1, d2] }
  | _ => none }
def volNilRow : OpenClaim := { program := "ytnikeceeclfnpaa", sum := "f19f4cd92b7ee5b944879875b90aa6469e65063f816efbcb8efb2ff7db9e69a1", func := "pledge/pledgelaw07.VolNil", spec := "volNil", apart := false }
def VolNilSaid : Prop := volNilRow.holds Try.pinned (OpenSpec.ofChange volNilSpec)

/-- ITS FALSE NEIGHBOUR: 'it returns false'. Refute it at one input. -/
def volNilWrong : ChangeSpec := { name := "volNil", fn := fun _ => fun
  | [d1, d2] => { results := [.lit (.bool false)], args := [d1, d2] }
  | _ => none }
def VolNilWrongFalsely : Prop := volNilRow.holds Try.pinned (OpenSpec.ofChange volNilWrong)

/-- 'pledgelaw23.QueueDoes': WHATEVER THE INPUT: true; the input reads as it did. -/
def queueDoesSpec : ChangeSpec := { name := "queueDoes", fn := fun _ => fun
  | [d1, d2] => { results := [.lit (.bool true)], args := [d1, d2] }
  | _ => none }
def queueDoesRow : OpenClaim := { program := "ytnikeceeclfnpaa", sum := "f19f4cd92b7ee5b944879875b90aa6469e65063f816efbcb8efb2ff7db9e69a1", func := "pledge/pledgelaw23.QueueDoes", spec := "queueDoes", unfollowed := true, recurses := true, apart := false }
def QueueDoesSaid : Prop := queueDoesRow.holds Try.pinned (OpenSpec.ofChange queueDoesSpec)

/-- ITS FALSE NEIGHBOUR: 'it returns false'. Refute it at one input. -/
def queueDoesWrong : ChangeSpec := { name := "queueDoes", fn := fun _ => fun
  | [d1, d2] => { results := [.lit (.bool false)], args := [d1, d2] }
  | _ => none }
def QueueDoesWrongFalsely : Prop := queueDoesRow.holds Try.pinned (OpenSpec.ofChange queueDoesWrong)

/-- 'pledgelaw23.QueueFifo': WHATEVER THE INPUT: true; the input reads as it did. -/
def queueFifoSpec : ChangeSpec := { name := "queueFifo", fn := fun _ => fun
  | [d1, d2] => { results := [.lit (.bool true)], args := [d1, d2] }
  | _ => none }
def queueFifoRow : OpenClaim := { program := "ytnikeceeclfnpaa", sum := "f19f4cd92b7ee5b944879875b90aa6469e65063f816efbcb8efb2ff7db9e69a1", func := "pledge/pledgelaw23.QueueFifo", spec := "queueFifo", unfollowed := true, recurses := true, apart := false }
def QueueFifoSaid : Prop := queueFifoRow.holds Try.pinned (OpenSpec.ofChange queueFifoSpec)

/-- ITS FALSE NEIGHBOUR: 'it returns false'. Refute it at one input. -/
def queueFifoWrong : ChangeSpec := { name := "queueFifo", fn := fun _ => fun
  | [d1, d2] => { results := [.lit (.bool false)], args := [d1, d2] }
  | _ => none }
def QueueFifoWrongFalsely : Prop := queueFifoRow.holds Try.pinned (OpenSpec.ofChange queueFifoWrong)

/-- 'pledgelaw23.QueueShort': WHATEVER THE INPUT: true; the input reads as it did. -/
def queueShortSpec : ChangeSpec := { name := "queueShort", fn := fun _ => fun
  | [d1, d2, d3] => { results := [.lit (.bool true)], args := [d1, d2, d3] }
  | _ => none }
def queueShortRow : OpenClaim := { program := "ytnikeceeclfnpaa", sum := "f19f4cd92b7ee5b944879875b90aa6469e65063f816efbcb8efb2ff7db9e69a1", func := "pledge/pledgelaw23.QueueShort", spec := "queueShort", unfollowed := true, recurses := true, apart := false }
def QueueShortSaid : Prop := queueShortRow.holds Try.pinned (OpenSpec.ofChange queueShortSpec)

/-- ITS FALSE NEIGHBOUR: 'it returns false'. Refute it at one input. -/
def queueShortWrong : ChangeSpec := { name := "queueShort", fn := fun _ => fun
  | [d1, d2, d3] => { results := [.lit (.bool false)], args := [d1, d2, d3] }
  | _ => none }
def QueueShortWrongFalsely : Prop := queueShortRow.holds Try.pinned (OpenSpec.ofChange queueShortWrong)

/- THE SECOND FORM. 'bulk': how many values and letters a reading holds, each counted each time it is reached (what is shared counts as often as it is met; a slice's spare places count too). A statement '..UptoSaid' is the law's where the arguments, and the package variables that the reading takes, are together of bulk at most 1048576: NARROWER than '..Said'. Prove '..Said' where nothing that the law and all that it calls make is longer than what came in: it says more and counts as full. Else prove '..UptoSaid'. A law counts once. -/
mutual
def uptoBulk {H : Type} : DataW H → Nat
  | .lit (.string bytes) => bytes.length + 1
  | .lit _ => 1
  | .nil => 1
  | .ptr d => uptoBulk d + 1
  | .slice elems spare => uptoBulkAll elems + uptoBulkAll spare + 1
  | .agg parts => uptoBulkAll parts + 1
  | .iface _ d => uptoBulk d + 1
  | .map entries => uptoBulkEntries entries + 1
  | .held _ => 1
def uptoBulkAll {H : Type} : List (DataW H) → Nat
  | [] => 0
  | d :: r => uptoBulk d + uptoBulkAll r
def uptoBulkEntries {H : Type} : List (Lit × DataW H) → Nat
  | [] => 0
  | x :: r => uptoBulkEntry x + uptoBulkEntries r
def uptoBulkEntry {H : Type} : Lit × DataW H → Nat
  | (.string bytes, d) => bytes.length + uptoBulk d + 1
  | (_, d) => uptoBulk d + 1
 end
def uptoSmall : (H : Type) → List (DataW H) → Bool := fun _ ds => decide (uptoBulkAll ds ≤ 1048576)
def OpenSpec.upto (s : _root_.Go.ChangeSpec) : _root_.Go.OpenSpec := { _root_.Go.OpenSpec.ofChange s with cond := some uptoSmall }

/-- 'pledgelaw07.VolPlays', WHERE WHAT IT READS IS OF BULK AT MOST 1048576: true; the input reads as it did. -/
def volPlaysUptoRow : OpenClaim := { program := "ytnikeceeclfnpaa", sum := "f19f4cd92b7ee5b944879875b90aa6469e65063f816efbcb8efb2ff7db9e69a1", func := "pledge/pledgelaw07.VolPlays", spec := "volPlays", apart := false, narrowed := true }
def VolPlaysUptoSaid : Prop := volPlaysUptoRow.holds Try.pinned (OpenSpec.upto volPlaysSpec)

/-- 'pledgelaw07.VolNew', WHERE WHAT IT READS IS OF BULK AT MOST 1048576: true; the input reads as it did. -/
def volNewUptoRow : OpenClaim := { program := "ytnikeceeclfnpaa", sum := "f19f4cd92b7ee5b944879875b90aa6469e65063f816efbcb8efb2ff7db9e69a1", func := "pledge/pledgelaw07.VolNew", spec := "volNew", apart := false, narrowed := true }
def VolNewUptoSaid : Prop := volNewUptoRow.holds Try.pinned (OpenSpec.upto volNewSpec)

/-- 'pledgelaw07.VolMends', WHERE WHAT IT READS IS OF BULK AT MOST 1048576: true; the input reads as it did. -/
def volMendsUptoRow : OpenClaim := { program := "ytnikeceeclfnpaa", sum := "f19f4cd92b7ee5b944879875b90aa6469e65063f816efbcb8efb2ff7db9e69a1", func := "pledge/pledgelaw07.VolMends", spec := "volMends", apart := false, narrowed := true }
def VolMendsUptoSaid : Prop := volMendsUptoRow.holds Try.pinned (OpenSpec.upto volMendsSpec)

/-- 'pledgelaw07.VolNil', WHERE WHAT IT READS IS OF BULK AT MOST 1048576: true; the input reads as it did. -/
def volNilUptoRow : OpenClaim := { program := "ytnikeceeclfnpaa", sum := "f19f4cd92b7ee5b944879875b90aa6469e65063f816efbcb8efb2ff7db9e69a1", func := "pledge/pledgelaw07.VolNil", spec := "volNil", apart := false, narrowed := true }
def VolNilUptoSaid : Prop := volNilUptoRow.holds Try.pinned (OpenSpec.upto volNilSpec)

/-- 'pledgelaw23.QueueDoes', WHERE WHAT IT READS IS OF BULK AT MOST 1048576: true; the input reads as it did. -/
def queueDoesUptoRow : OpenClaim := { program := "ytnikeceeclfnpaa", sum := "f19f4cd92b7ee5b944879875b90aa6469e65063f816efbcb8efb2ff7db9e69a1", func := "pledge/pledgelaw23.QueueDoes", spec := "queueDoes", unfollowed := true, recurses := true, apart := false, narrowed := true }
def QueueDoesUptoSaid : Prop := queueDoesUptoRow.holds Try.pinned (OpenSpec.upto queueDoesSpec)

/-- 'pledgelaw23.QueueFifo', WHERE WHAT IT READS IS OF BULK AT MOST 1048576: true; the input reads as it did. -/
def queueFifoUptoRow : OpenClaim := { program := "ytnikeceeclfnpaa", sum := "f19f4cd92b7ee5b944879875b90aa6469e65063f816efbcb8efb2ff7db9e69a1", func := "pledge/pledgelaw23.QueueFifo", spec := "queueFifo", unfollowed := true, recurses := true, apart := false, narrowed := true }
def QueueFifoUptoSaid : Prop := queueFifoUptoRow.holds Try.pinned (OpenSpec.upto queueFifoSpec)

/-- 'pledgelaw23.QueueShort', WHERE WHAT IT READS IS OF BULK AT MOST 1048576: true; the input reads as it did. -/
def queueShortUptoRow : OpenClaim := { program := "ytnikeceeclfnpaa", sum := "f19f4cd92b7ee5b944879875b90aa6469e65063f816efbcb8efb2ff7db9e69a1", func := "pledge/pledgelaw23.QueueShort", spec := "queueShort", unfollowed := true, recurses := true, apart := false, narrowed := true }
def QueueShortUptoSaid : Prop := queueShortUptoRow.holds Try.pinned (OpenSpec.upto queueShortSpec)

end Rows
end Go.Proofs.Ytnikeceeclfnpaa
