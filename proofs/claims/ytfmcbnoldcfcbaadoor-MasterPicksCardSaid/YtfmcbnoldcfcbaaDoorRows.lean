/-
  NARROWER THAN 'FOR EVERY INPUT', by the rows' own cells (each row's printed sentence says how): MasterBytes: laid · MasterPicks: laid · MasterBack: laid · MasterTorn: laid.
  DERIVED. THE GIVEN ROWS OF THIS SEAT. 4 by the template 'for every input the law returns true; each argument reads behind the call as it read before'; 0 by the template 'total and deterministic' (their statements: YtfmcbnoldcfcbaaDoorTotals.lean).
  GIVEN WITH THE SEED: the statements are not yours to turn. If you find one false, say at which input.
  Laid BY PROGRAM, IN A SANDBOX (cutbox-rows.mjs): the forced cells as the released guide's own fill.sh prints them over the translation 22fc4f575324a9cb… (all of the seat's roots in one cut). By AI agents, Wed Nov 11 2026. No macro, syntax, notation, axiom, sorry.
-/
import Derived.Test.YtfmcbnoldcfcbaaDoorChecked
import GoSem.Claim
import GoSem.ClaimJoined
import GoSem.ClaimMapViews
import Derived.JoinedTies
import Derived.KernelRfl
namespace Go.Proofs.YtfmcbnoldcfcbaaDoor
/- THE CELL 'sum', in the pinned program and in every row, IS THE sha256 OF THE DUMP (.gsa) THAT YtfmcbnoldcfcbaaDoorProg.lean LOADS. Nothing in Lean hashes anything: it is a label: what it is worth is what the hold of that sum in a sandbox is worth. -/
noncomputable def Tryd.pinned : Pinned := { name := "ytfmcbnoldcfcbaadoor", sum := "22fc4f575324a9cb0e46960301e8132d8830017cdcafef90ef9495633b361e62", checked := Tryd.checked }
namespace Rows
def none {H : Type} : Left H := { results := [], args := [] }

/- WHAT THE LISTED PACKAGE-LEVEL VARIABLES READ AS WHEN THE CALL BEGINS. Each datum BY PROGRAM (the guide's laid-datum.mjs) off the statement by which the dump's own 'gosem.cut.vars' lays the variable. In a bare row this is a premise. The card (YtfmcbnoldcfcbaaDoorCards.lean) ties it to the program's text. -/
def laid_pledge_crc_half {H : Type} : DataW H := .agg [.lit (.int .u32 0), .lit (.int .u32 498536548), .lit (.int .u32 997073096), .lit (.int .u32 651767980), .lit (.int .u32 1994146192), .lit (.int .u32 1802195444), .lit (.int .u32 1303535960), .lit (.int .u32 1342533948), .lit (.int .u32 3988292384), .lit (.int .u32 4027552580), .lit (.int .u32 3604390888), .lit (.int .u32 3412177804), .lit (.int .u32 2607071920), .lit (.int .u32 2262029012), .lit (.int .u32 2685067896), .lit (.int .u32 3183342108)]

/-- 'pledgelaw16.MasterBytes': WHATEVER THE INPUT: true; the input reads as it did. -/
def masterBytesSpec : ChangeSpec := { name := "masterBytes", fn := fun _ => fun
  | [d1, d2] => { results := [.lit (.bool true)], args := [d1, d2] }
  | _ => none }
def masterBytesRow : OpenClaim := { program := "ytfmcbnoldcfcbaadoor", sum := "22fc4f575324a9cb0e46960301e8132d8830017cdcafef90ef9495633b361e62", func := "pledge/pledgelaw16.MasterBytes", spec := "masterBytes", named := ["pledge/crc.half"], apart := false, laid := [("pledge/crc.half", laid_pledge_crc_half)] }
def MasterBytesSaid : Prop := masterBytesRow.holds Tryd.pinned (OpenSpec.ofChange masterBytesSpec)

/-- ITS FALSE NEIGHBOUR: 'it returns false'. Refute it at one input. -/
def masterBytesWrong : ChangeSpec := { name := "masterBytes", fn := fun _ => fun
  | [d1, d2] => { results := [.lit (.bool false)], args := [d1, d2] }
  | _ => none }
def MasterBytesWrongFalsely : Prop := masterBytesRow.holds Tryd.pinned (OpenSpec.ofChange masterBytesWrong)

/-- 'pledgelaw16.MasterPicks': WHATEVER THE INPUT: true; the input reads as it did. -/
def masterPicksSpec : ChangeSpec := { name := "masterPicks", fn := fun _ => fun
  | [d1, d2] => { results := [.lit (.bool true)], args := [d1, d2] }
  | _ => none }
def masterPicksRow : OpenClaim := { program := "ytfmcbnoldcfcbaadoor", sum := "22fc4f575324a9cb0e46960301e8132d8830017cdcafef90ef9495633b361e62", func := "pledge/pledgelaw16.MasterPicks", spec := "masterPicks", named := ["pledge/crc.half"], apart := false, laid := [("pledge/crc.half", laid_pledge_crc_half)] }
def MasterPicksSaid : Prop := masterPicksRow.holds Tryd.pinned (OpenSpec.ofChange masterPicksSpec)

/-- ITS FALSE NEIGHBOUR: 'it returns false'. Refute it at one input. -/
def masterPicksWrong : ChangeSpec := { name := "masterPicks", fn := fun _ => fun
  | [d1, d2] => { results := [.lit (.bool false)], args := [d1, d2] }
  | _ => none }
def MasterPicksWrongFalsely : Prop := masterPicksRow.holds Tryd.pinned (OpenSpec.ofChange masterPicksWrong)

/-- 'pledgelaw16.MasterBack': WHATEVER THE INPUT: true; the input reads as it did. -/
def masterBackSpec : ChangeSpec := { name := "masterBack", fn := fun _ => fun
  | [d1, d2, d3] => { results := [.lit (.bool true)], args := [d1, d2, d3] }
  | _ => none }
def masterBackRow : OpenClaim := { program := "ytfmcbnoldcfcbaadoor", sum := "22fc4f575324a9cb0e46960301e8132d8830017cdcafef90ef9495633b361e62", func := "pledge/pledgelaw16.MasterBack", spec := "masterBack", named := ["pledge/crc.half"], apart := false, laid := [("pledge/crc.half", laid_pledge_crc_half)] }
def MasterBackSaid : Prop := masterBackRow.holds Tryd.pinned (OpenSpec.ofChange masterBackSpec)

/-- ITS FALSE NEIGHBOUR: 'it returns false'. Refute it at one input. -/
def masterBackWrong : ChangeSpec := { name := "masterBack", fn := fun _ => fun
  | [d1, d2, d3] => { results := [.lit (.bool false)], args := [d1, d2, d3] }
  | _ => none }
def MasterBackWrongFalsely : Prop := masterBackRow.holds Tryd.pinned (OpenSpec.ofChange masterBackWrong)

/-- 'pledgelaw16.MasterTorn': WHATEVER THE INPUT: true; the input reads as it did. -/
def masterTornSpec : ChangeSpec := { name := "masterTorn", fn := fun _ => fun
  | [d1, d2, d3] => { results := [.lit (.bool true)], args := [d1, d2, d3] }
  | _ => none }
def masterTornRow : OpenClaim := { program := "ytfmcbnoldcfcbaadoor", sum := "22fc4f575324a9cb0e46960301e8132d8830017cdcafef90ef9495633b361e62", func := "pledge/pledgelaw16.MasterTorn", spec := "masterTorn", named := ["pledge/crc.half"], apart := false, laid := [("pledge/crc.half", laid_pledge_crc_half)] }
def MasterTornSaid : Prop := masterTornRow.holds Tryd.pinned (OpenSpec.ofChange masterTornSpec)

/-- ITS FALSE NEIGHBOUR: 'it returns false'. Refute it at one input. -/
def masterTornWrong : ChangeSpec := { name := "masterTorn", fn := fun _ => fun
  | [d1, d2, d3] => { results := [.lit (.bool false)], args := [d1, d2, d3] }
  | _ => none }
def MasterTornWrongFalsely : Prop := masterTornRow.holds Tryd.pinned (OpenSpec.ofChange masterTornWrong)

/- THE SECOND FORM. 'bulk': how many values and letters a reading holds, each counted each time it is reached (what is shared counts as often as it is met; a slice's spare places count too). A statement '..UptoSaid' is the law's where the arguments, and the package variables that the reading takes, are together of bulk at most 1048576: NARROWER than '..Said'. Prove '..Said' where nothing that the law and all that it calls make is longer than what came in: it says more and counts as full. Else prove '..UptoSaid'. A law counts once. -/
mutual
def uptoBulk {H : Type} : DataW H → Nat
  | .lit (.string bytes) => bytes.length + 1
  | .lit _ => 1
  | .nil => 1
  | .ptr d => uptoBulk d + 1
  | .slice elems spare => uptoBulkAll elems + uptoBulkAll spare + 1
  | .agg parts => uptoBulkAll parts + 1
  | .iface _ d => uptoBulk d + 1
  | .map entries => uptoBulkEntries entries + 1
  | .held _ => 1
def uptoBulkAll {H : Type} : List (DataW H) → Nat
  | [] => 0
  | d :: r => uptoBulk d + uptoBulkAll r
def uptoBulkEntries {H : Type} : List (Lit × DataW H) → Nat
  | [] => 0
  | x :: r => uptoBulkEntry x + uptoBulkEntries r
def uptoBulkEntry {H : Type} : Lit × DataW H → Nat
  | (.string bytes, d) => bytes.length + uptoBulk d + 1
  | (_, d) => uptoBulk d + 1
 end
def uptoSmall : (H : Type) → List (DataW H) → Bool := fun _ ds => decide (uptoBulkAll ds ≤ 1048576)
def OpenSpec.upto (s : _root_.Go.ChangeSpec) : _root_.Go.OpenSpec := { _root_.Go.OpenSpec.ofChange s with cond := some uptoSmall }

/-- 'pledgelaw16.MasterBytes', WHERE WHAT IT READS IS OF BULK AT MOST 1048576: true; the input reads as it did. -/
def masterBytesUptoRow : OpenClaim := { program := "ytfmcbnoldcfcbaadoor", sum := "22fc4f575324a9cb0e46960301e8132d8830017cdcafef90ef9495633b361e62", func := "pledge/pledgelaw16.MasterBytes", spec := "masterBytes", named := ["pledge/crc.half"], apart := false, laid := [("pledge/crc.half", laid_pledge_crc_half)], narrowed := true }
def MasterBytesUptoSaid : Prop := masterBytesUptoRow.holds Tryd.pinned (OpenSpec.upto masterBytesSpec)

/-- 'pledgelaw16.MasterPicks', WHERE WHAT IT READS IS OF BULK AT MOST 1048576: true; the input reads as it did. -/
def masterPicksUptoRow : OpenClaim := { program := "ytfmcbnoldcfcbaadoor", sum := "22fc4f575324a9cb0e46960301e8132d8830017cdcafef90ef9495633b361e62", func := "pledge/pledgelaw16.MasterPicks", spec := "masterPicks", named := ["pledge/crc.half"], apart := false, laid := [("pledge/crc.half", laid_pledge_crc_half)], narrowed := true }
def MasterPicksUptoSaid : Prop := masterPicksUptoRow.holds Tryd.pinned (OpenSpec.upto masterPicksSpec)

/-- 'pledgelaw16.MasterBack', WHERE WHAT IT READS IS OF BULK AT MOST 1048576: true; the input reads as it did. -/
def masterBackUptoRow : OpenClaim := { program := "ytfmcbnoldcfcbaadoor", sum := "22fc4f575324a9cb0e46960301e8132d8830017cdcafef90ef9495633b361e62", func := "pledge/pledgelaw16.MasterBack", spec := "masterBack", named := ["pledge/crc.half"], apart := false, laid := [("pledge/crc.half", laid_pledge_crc_half)], narrowed := true }
def MasterBackUptoSaid : Prop := masterBackUptoRow.holds Tryd.pinned (OpenSpec.upto masterBackSpec)

/-- 'pledgelaw16.MasterTorn', WHERE WHAT IT READS IS OF BULK AT MOST 1048576: true; the input reads as it did. -/
def masterTornUptoRow : OpenClaim := { program := "ytfmcbnoldcfcbaadoor", sum := "22fc4f575324a9cb0e46960301e8132d8830017cdcafef90ef9495633b361e62", func := "pledge/pledgelaw16.MasterTorn", spec := "masterTorn", named := ["pledge/crc.half"], apart := false, laid := [("pledge/crc.half", laid_pledge_crc_half)], narrowed := true }
def MasterTornUptoSaid : Prop := masterTornUptoRow.holds Tryd.pinned (OpenSpec.upto masterTornSpec)

end Rows
end Go.Proofs.YtfmcbnoldcfcbaaDoor
