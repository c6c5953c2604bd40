/-
  No cell of these rows narrows 'for every input' (looked for: loops, veiled, ifaces, maps, wideKeys, modest, calm, conditions, laid).
  DERIVED. THE GIVEN ROWS OF THIS SEAT. 7 by the template 'for every input the law returns true; each argument reads behind the call as it read before'; 0 by the template 'total and deterministic' (their statements: YtomnhgcjdnhijaaTotals.lean).
  GIVEN WITH THE SEED: the statements are not yours to turn. If you find one false, say at which input.
  Laid BY PROGRAM, IN A SANDBOX (cutbox-rows.mjs): the forced cells as the released guide's own fill.sh prints them over the translation 2796aec31f0e9767… (all of the seat's roots in one cut). By AI agents, Wed Nov 11 2026. No macro, syntax, notation, axiom, sorry.
-/
import Derived.Test.YtomnhgcjdnhijaaChecked
import GoSem.Claim
import GoSem.ClaimJoined
import GoSem.ClaimMapViews
import Derived.JoinedTies
import Derived.KernelRfl
namespace Go.Proofs.Ytomnhgcjdnhijaa
/- THE CELL 'sum', in the pinned program and in every row, IS THE sha256 OF THE DUMP (.gsa) THAT YtomnhgcjdnhijaaProg.lean LOADS. Nothing in Lean hashes anything: it is a label: what it is worth is what the hold of that sum in a sandbox is worth. -/
noncomputable def Try.pinned : Pinned := { name := "ytomnhgcjdnhijaa", sum := "2796aec31f0e97672f1ee7cecebf5004471e29f7dbb26802612c923adb65a425", checked := Try.checked }
namespace Rows
def none {H : Type} : Left H := { results := [], args := [] }

/-- 'pledgelaw34.RequestBytes': WHATEVER THE INPUT: true; the input reads as it did. -/
def requestBytesSpec : ChangeSpec := { name := "requestBytes", fn := fun _ => fun
  | [d1, d2] => { results := [.lit (.bool true)], args := [d1, d2] }
  | _ => none }
def requestBytesRow : OpenClaim := { program := "ytomnhgcjdnhijaa", sum := "2796aec31f0e97672f1ee7cecebf5004471e29f7dbb26802612c923adb65a425", func := "pledge/pledgelaw34.RequestBytes", spec := "requestBytes", apart := false }
def RequestBytesSaid : Prop := requestBytesRow.holds Try.pinned (OpenSpec.ofChange requestBytesSpec)

/-- ITS FALSE NEIGHBOUR: 'it returns false'. Refute it at one input. -/
def requestBytesWrong : ChangeSpec := { name := "requestBytes", fn := fun _ => fun
  | [d1, d2] => { results := [.lit (.bool false)], args := [d1, d2] }
  | _ => none }
def RequestBytesWrongFalsely : Prop := requestBytesRow.holds Try.pinned (OpenSpec.ofChange requestBytesWrong)

/-- 'pledgelaw38.ScriptBytes': WHATEVER THE INPUT: true; the input reads as it did. -/
def scriptBytesSpec : ChangeSpec := { name := "scriptBytes", fn := fun _ => fun
  | [d1, d2] => { results := [.lit (.bool true)], args := [d1, d2] }
  | _ => none }
def scriptBytesRow : OpenClaim := { program := "ytomnhgcjdnhijaa", sum := "2796aec31f0e97672f1ee7cecebf5004471e29f7dbb26802612c923adb65a425", func := "pledge/pledgelaw38.ScriptBytes", spec := "scriptBytes", apart := false }
def ScriptBytesSaid : Prop := scriptBytesRow.holds Try.pinned (OpenSpec.ofChange scriptBytesSpec)

/-- ITS FALSE NEIGHBOUR: 'it returns false'. Refute it at one input. -/
def scriptBytesWrong : ChangeSpec := { name := "scriptBytes", fn := fun _ => fun
  | [d1, d2] => { results := [.lit (.bool false)], args := [d1, d2] }
  | _ => none }
def ScriptBytesWrongFalsely : Prop := scriptBytesRow.holds Try.pinned (OpenSpec.ofChange scriptBytesWrong)

/-- 'pledgelaw38.ScriptBack': WHATEVER THE INPUT: true; the input reads as it did. -/
def scriptBackSpec : ChangeSpec := { name := "scriptBack", fn := fun _ => fun
  | [d1, d2] => { results := [.lit (.bool true)], args := [d1, d2] }
  | _ => none }
def scriptBackRow : OpenClaim := { program := "ytomnhgcjdnhijaa", sum := "2796aec31f0e97672f1ee7cecebf5004471e29f7dbb26802612c923adb65a425", func := "pledge/pledgelaw38.ScriptBack", spec := "scriptBack", apart := false }
def ScriptBackSaid : Prop := scriptBackRow.holds Try.pinned (OpenSpec.ofChange scriptBackSpec)

/-- ITS FALSE NEIGHBOUR: 'it returns false'. Refute it at one input. -/
def scriptBackWrong : ChangeSpec := { name := "scriptBack", fn := fun _ => fun
  | [d1, d2] => { results := [.lit (.bool false)], args := [d1, d2] }
  | _ => none }
def ScriptBackWrongFalsely : Prop := scriptBackRow.holds Try.pinned (OpenSpec.ofChange scriptBackWrong)

/-- 'pledgelaw38.ScriptLong': WHATEVER THE INPUT: true; the input reads as it did. -/
def scriptLongSpec : ChangeSpec := { name := "scriptLong", fn := fun _ => fun
  | [d1, d2] => { results := [.lit (.bool true)], args := [d1, d2] }
  | _ => none }
def scriptLongRow : OpenClaim := { program := "ytomnhgcjdnhijaa", sum := "2796aec31f0e97672f1ee7cecebf5004471e29f7dbb26802612c923adb65a425", func := "pledge/pledgelaw38.ScriptLong", spec := "scriptLong", apart := false }
def ScriptLongSaid : Prop := scriptLongRow.holds Try.pinned (OpenSpec.ofChange scriptLongSpec)

/-- ITS FALSE NEIGHBOUR: 'it returns false'. Refute it at one input. -/
def scriptLongWrong : ChangeSpec := { name := "scriptLong", fn := fun _ => fun
  | [d1, d2] => { results := [.lit (.bool false)], args := [d1, d2] }
  | _ => none }
def ScriptLongWrongFalsely : Prop := scriptLongRow.holds Try.pinned (OpenSpec.ofChange scriptLongWrong)

/-- 'pledgelaw34.RequestBack': WHATEVER THE INPUT: true; the input reads as it did. -/
def requestBackSpec : ChangeSpec := { name := "requestBack", fn := fun _ => fun
  | [d1, d2] => { results := [.lit (.bool true)], args := [d1, d2] }
  | _ => none }
def requestBackRow : OpenClaim := { program := "ytomnhgcjdnhijaa", sum := "2796aec31f0e97672f1ee7cecebf5004471e29f7dbb26802612c923adb65a425", func := "pledge/pledgelaw34.RequestBack", spec := "requestBack", apart := false }
def RequestBackSaid : Prop := requestBackRow.holds Try.pinned (OpenSpec.ofChange requestBackSpec)

/-- ITS FALSE NEIGHBOUR: 'it returns false'. Refute it at one input. -/
def requestBackWrong : ChangeSpec := { name := "requestBack", fn := fun _ => fun
  | [d1, d2] => { results := [.lit (.bool false)], args := [d1, d2] }
  | _ => none }
def RequestBackWrongFalsely : Prop := requestBackRow.holds Try.pinned (OpenSpec.ofChange requestBackWrong)

/-- 'pledgelaw38.ScriptGood': WHATEVER THE INPUT: true; the input reads as it did. -/
def scriptGoodSpec : ChangeSpec := { name := "scriptGood", fn := fun _ => fun
  | [d1, d2] => { results := [.lit (.bool true)], args := [d1, d2] }
  | _ => none }
def scriptGoodRow : OpenClaim := { program := "ytomnhgcjdnhijaa", sum := "2796aec31f0e97672f1ee7cecebf5004471e29f7dbb26802612c923adb65a425", func := "pledge/pledgelaw38.ScriptGood", spec := "scriptGood", apart := false }
def ScriptGoodSaid : Prop := scriptGoodRow.holds Try.pinned (OpenSpec.ofChange scriptGoodSpec)

/-- ITS FALSE NEIGHBOUR: 'it returns false'. Refute it at one input. -/
def scriptGoodWrong : ChangeSpec := { name := "scriptGood", fn := fun _ => fun
  | [d1, d2] => { results := [.lit (.bool false)], args := [d1, d2] }
  | _ => none }
def ScriptGoodWrongFalsely : Prop := scriptGoodRow.holds Try.pinned (OpenSpec.ofChange scriptGoodWrong)

/-- 'pledgelaw34.RequestGood': WHATEVER THE INPUT: true; the input reads as it did. -/
def requestGoodSpec : ChangeSpec := { name := "requestGood", fn := fun _ => fun
  | [d1, d2] => { results := [.lit (.bool true)], args := [d1, d2] }
  | _ => none }
def requestGoodRow : OpenClaim := { program := "ytomnhgcjdnhijaa", sum := "2796aec31f0e97672f1ee7cecebf5004471e29f7dbb26802612c923adb65a425", func := "pledge/pledgelaw34.RequestGood", spec := "requestGood", apart := false }
def RequestGoodSaid : Prop := requestGoodRow.holds Try.pinned (OpenSpec.ofChange requestGoodSpec)

/-- ITS FALSE NEIGHBOUR: 'it returns false'. Refute it at one input. -/
def requestGoodWrong : ChangeSpec := { name := "requestGood", fn := fun _ => fun
  | [d1, d2] => { results := [.lit (.bool false)], args := [d1, d2] }
  | _ => none }
def RequestGoodWrongFalsely : Prop := requestGoodRow.holds Try.pinned (OpenSpec.ofChange requestGoodWrong)

/- THE SECOND FORM. 'bulk': how many values and letters a reading holds, each counted each time it is reached (what is shared counts as often as it is met; a slice's spare places count too). A statement '..UptoSaid' is the law's where the arguments, and the package variables that the reading takes, are together of bulk at most 1048576: NARROWER than '..Said'. Prove '..Said' where nothing that the law and all that it calls make is longer than what came in: it says more and counts as full. Else prove '..UptoSaid'. A law counts once. -/
mutual
def uptoBulk {H : Type} : DataW H → Nat
  | .lit (.string bytes) => bytes.length + 1
  | .lit _ => 1
  | .nil => 1
  | .ptr d => uptoBulk d + 1
  | .slice elems spare => uptoBulkAll elems + uptoBulkAll spare + 1
  | .agg parts => uptoBulkAll parts + 1
  | .iface _ d => uptoBulk d + 1
  | .map entries => uptoBulkEntries entries + 1
  | .held _ => 1
def uptoBulkAll {H : Type} : List (DataW H) → Nat
  | [] => 0
  | d :: r => uptoBulk d + uptoBulkAll r
def uptoBulkEntries {H : Type} : List (Lit × DataW H) → Nat
  | [] => 0
  | x :: r => uptoBulkEntry x + uptoBulkEntries r
def uptoBulkEntry {H : Type} : Lit × DataW H → Nat
  | (.string bytes, d) => bytes.length + uptoBulk d + 1
  | (_, d) => uptoBulk d + 1
 end
def uptoSmall : (H : Type) → List (DataW H) → Bool := fun _ ds => decide (uptoBulkAll ds ≤ 1048576)
def OpenSpec.upto (s : _root_.Go.ChangeSpec) : _root_.Go.OpenSpec := { _root_.Go.OpenSpec.ofChange s with cond := some uptoSmall }

/-- 'pledgelaw34.RequestBytes', WHERE WHAT IT READS IS OF BULK AT MOST 1048576: true; the input reads as it did. -/
def requestBytesUptoRow : OpenClaim := { program := "ytomnhgcjdnhijaa", sum := "2796aec31f0e97672f1ee7cecebf5004471e29f7dbb26802612c923adb65a425", func := "pledge/pledgelaw34.RequestBytes", spec := "requestBytes", apart := false, narrowed := true }
def RequestBytesUptoSaid : Prop := requestBytesUptoRow.holds Try.pinned (OpenSpec.upto requestBytesSpec)

/-- 'pledgelaw38.ScriptBytes', WHERE WHAT IT READS IS OF BULK AT MOST 1048576: true; the input reads as it did. -/
def scriptBytesUptoRow : OpenClaim := { program := "ytomnhgcjdnhijaa", sum := "2796aec31f0e97672f1ee7cecebf5004471e29f7dbb26802612c923adb65a425", func := "pledge/pledgelaw38.ScriptBytes", spec := "scriptBytes", apart := false, narrowed := true }
def ScriptBytesUptoSaid : Prop := scriptBytesUptoRow.holds Try.pinned (OpenSpec.upto scriptBytesSpec)

/-- 'pledgelaw38.ScriptBack', WHERE WHAT IT READS IS OF BULK AT MOST 1048576: true; the input reads as it did. -/
def scriptBackUptoRow : OpenClaim := { program := "ytomnhgcjdnhijaa", sum := "2796aec31f0e97672f1ee7cecebf5004471e29f7dbb26802612c923adb65a425", func := "pledge/pledgelaw38.ScriptBack", spec := "scriptBack", apart := false, narrowed := true }
def ScriptBackUptoSaid : Prop := scriptBackUptoRow.holds Try.pinned (OpenSpec.upto scriptBackSpec)

/-- 'pledgelaw38.ScriptLong', WHERE WHAT IT READS IS OF BULK AT MOST 1048576: true; the input reads as it did. -/
def scriptLongUptoRow : OpenClaim := { program := "ytomnhgcjdnhijaa", sum := "2796aec31f0e97672f1ee7cecebf5004471e29f7dbb26802612c923adb65a425", func := "pledge/pledgelaw38.ScriptLong", spec := "scriptLong", apart := false, narrowed := true }
def ScriptLongUptoSaid : Prop := scriptLongUptoRow.holds Try.pinned (OpenSpec.upto scriptLongSpec)

/-- 'pledgelaw34.RequestBack', WHERE WHAT IT READS IS OF BULK AT MOST 1048576: true; the input reads as it did. -/
def requestBackUptoRow : OpenClaim := { program := "ytomnhgcjdnhijaa", sum := "2796aec31f0e97672f1ee7cecebf5004471e29f7dbb26802612c923adb65a425", func := "pledge/pledgelaw34.RequestBack", spec := "requestBack", apart := false, narrowed := true }
def RequestBackUptoSaid : Prop := requestBackUptoRow.holds Try.pinned (OpenSpec.upto requestBackSpec)

/-- 'pledgelaw38.ScriptGood', WHERE WHAT IT READS IS OF BULK AT MOST 1048576: true; the input reads as it did. -/
def scriptGoodUptoRow : OpenClaim := { program := "ytomnhgcjdnhijaa", sum := "2796aec31f0e97672f1ee7cecebf5004471e29f7dbb26802612c923adb65a425", func := "pledge/pledgelaw38.ScriptGood", spec := "scriptGood", apart := false, narrowed := true }
def ScriptGoodUptoSaid : Prop := scriptGoodUptoRow.holds Try.pinned (OpenSpec.upto scriptGoodSpec)

/-- 'pledgelaw34.RequestGood', WHERE WHAT IT READS IS OF BULK AT MOST 1048576: true; the input reads as it did. -/
def requestGoodUptoRow : OpenClaim := { program := "ytomnhgcjdnhijaa", sum := "2796aec31f0e97672f1ee7cecebf5004471e29f7dbb26802612c923adb65a425", func := "pledge/pledgelaw34.RequestGood", spec := "requestGood", apart := false, narrowed := true }
def RequestGoodUptoSaid : Prop := requestGoodUptoRow.holds Try.pinned (OpenSpec.upto requestGoodSpec)

end Rows
end Go.Proofs.Ytomnhgcjdnhijaa
