/-
  No cell of these rows narrows 'for every input' (looked for: loops, veiled, ifaces, maps, wideKeys, modest, calm, conditions, laid).
  DERIVED. THE GIVEN ROWS OF THIS SEAT. 9 by the template 'for every input the law returns true; each argument reads behind the call as it read before'; 0 by the template 'total and deterministic' (their statements: YtfmcbnoldcfcbaaTotals.lean).
  GIVEN WITH THE SEED: the statements are not yours to turn. If you find one false, say at which input.
  Laid BY PROGRAM, IN A SANDBOX (cutbox-rows.mjs): the forced cells as the released guide's own fill.sh prints them over the translation 772cce9fa8279273… (all of the seat's roots in one cut). By AI agents, Wed Nov 11 2026. No macro, syntax, notation, axiom, sorry.
-/
import Derived.Test.YtfmcbnoldcfcbaaChecked
import GoSem.Claim
import GoSem.ClaimJoined
import GoSem.ClaimMapViews
import Derived.JoinedTies
import Derived.KernelRfl
namespace Go.Proofs.Ytfmcbnoldcfcbaa
/- THE CELL 'sum', in the pinned program and in every row, IS THE sha256 OF THE DUMP (.gsa) THAT YtfmcbnoldcfcbaaProg.lean LOADS. Nothing in Lean hashes anything: it is a label: what it is worth is what the hold of that sum in a sandbox is worth. -/
noncomputable def Try.pinned : Pinned := { name := "ytfmcbnoldcfcbaa", sum := "772cce9fa8279273df4e190ba0efa820f9e0026569457597f45c2469c0735312", checked := Try.checked }
namespace Rows
def none {H : Type} : Left H := { results := [], args := [] }

/-- 'pledgelaw08.TapePlays': WHATEVER THE INPUT: true; the input reads as it did. -/
def tapePlaysSpec : ChangeSpec := { name := "tapePlays", fn := fun _ => fun
  | [d1, d2, d3] => { results := [.lit (.bool true)], args := [d1, d2, d3] }
  | _ => none }
def tapePlaysRow : OpenClaim := { program := "ytfmcbnoldcfcbaa", sum := "772cce9fa8279273df4e190ba0efa820f9e0026569457597f45c2469c0735312", func := "pledge/pledgelaw08.TapePlays", spec := "tapePlays", inPlace := ["maps.clone"], apart := false }
def TapePlaysSaid : Prop := tapePlaysRow.holds Try.pinned (OpenSpec.ofChange tapePlaysSpec)

/-- ITS FALSE NEIGHBOUR: 'it returns false'. Refute it at one input. -/
def tapePlaysWrong : ChangeSpec := { name := "tapePlays", fn := fun _ => fun
  | [d1, d2, d3] => { results := [.lit (.bool false)], args := [d1, d2, d3] }
  | _ => none }
def TapePlaysWrongFalsely : Prop := tapePlaysRow.holds Try.pinned (OpenSpec.ofChange tapePlaysWrong)

/-- 'pledgelaw08.TapeStays': WHATEVER THE INPUT: true; the input reads as it did. -/
def tapeStaysSpec : ChangeSpec := { name := "tapeStays", fn := fun _ => fun
  | [d1, d2, d3] => { results := [.lit (.bool true)], args := [d1, d2, d3] }
  | _ => none }
def tapeStaysRow : OpenClaim := { program := "ytfmcbnoldcfcbaa", sum := "772cce9fa8279273df4e190ba0efa820f9e0026569457597f45c2469c0735312", func := "pledge/pledgelaw08.TapeStays", spec := "tapeStays", inPlace := ["maps.clone"], apart := false }
def TapeStaysSaid : Prop := tapeStaysRow.holds Try.pinned (OpenSpec.ofChange tapeStaysSpec)

/-- ITS FALSE NEIGHBOUR: 'it returns false'. Refute it at one input. -/
def tapeStaysWrong : ChangeSpec := { name := "tapeStays", fn := fun _ => fun
  | [d1, d2, d3] => { results := [.lit (.bool false)], args := [d1, d2, d3] }
  | _ => none }
def TapeStaysWrongFalsely : Prop := tapeStaysRow.holds Try.pinned (OpenSpec.ofChange tapeStaysWrong)

/-- 'pledgelaw08.TapeApart': WHATEVER THE INPUT: true; the input reads as it did. -/
def tapeApartSpec : ChangeSpec := { name := "tapeApart", fn := fun _ => fun
  | [d1, d2, d3] => { results := [.lit (.bool true)], args := [d1, d2, d3] }
  | _ => none }
def tapeApartRow : OpenClaim := { program := "ytfmcbnoldcfcbaa", sum := "772cce9fa8279273df4e190ba0efa820f9e0026569457597f45c2469c0735312", func := "pledge/pledgelaw08.TapeApart", spec := "tapeApart", inPlace := ["maps.clone"], apart := false }
def TapeApartSaid : Prop := tapeApartRow.holds Try.pinned (OpenSpec.ofChange tapeApartSpec)

/-- ITS FALSE NEIGHBOUR: 'it returns false'. Refute it at one input. -/
def tapeApartWrong : ChangeSpec := { name := "tapeApart", fn := fun _ => fun
  | [d1, d2, d3] => { results := [.lit (.bool false)], args := [d1, d2, d3] }
  | _ => none }
def TapeApartWrongFalsely : Prop := tapeApartRow.holds Try.pinned (OpenSpec.ofChange tapeApartWrong)

/-- 'pledgelaw08.TapeNil': WHATEVER THE INPUT: true; the input reads as it did. -/
def tapeNilSpec : ChangeSpec := { name := "tapeNil", fn := fun _ => fun
  | [d1, d2] => { results := [.lit (.bool true)], args := [d1, d2] }
  | _ => none }
def tapeNilRow : OpenClaim := { program := "ytfmcbnoldcfcbaa", sum := "772cce9fa8279273df4e190ba0efa820f9e0026569457597f45c2469c0735312", func := "pledge/pledgelaw08.TapeNil", spec := "tapeNil", inPlace := ["maps.clone"], apart := false }
def TapeNilSaid : Prop := tapeNilRow.holds Try.pinned (OpenSpec.ofChange tapeNilSpec)

/-- ITS FALSE NEIGHBOUR: 'it returns false'. Refute it at one input. -/
def tapeNilWrong : ChangeSpec := { name := "tapeNil", fn := fun _ => fun
  | [d1, d2] => { results := [.lit (.bool false)], args := [d1, d2] }
  | _ => none }
def TapeNilWrongFalsely : Prop := tapeNilRow.holds Try.pinned (OpenSpec.ofChange tapeNilWrong)

/-- 'pledgelaw06.ConfChecks': WHATEVER THE INPUT: true; the input reads as it did. -/
def confChecksSpec : ChangeSpec := { name := "confChecks", fn := fun _ => fun
  | [d] => { results := [.lit (.bool true)], args := [d] }
  | _ => none }
def confChecksRow : OpenClaim := { program := "ytfmcbnoldcfcbaa", sum := "772cce9fa8279273df4e190ba0efa820f9e0026569457597f45c2469c0735312", func := "pledge/pledgelaw06.ConfChecks", spec := "confChecks", unfollowed := true, recurses := true, apart := false }
def ConfChecksSaid : Prop := confChecksRow.holds Try.pinned (OpenSpec.ofChange confChecksSpec)

/-- ITS FALSE NEIGHBOUR: 'it returns false'. Refute it at one input. -/
def confChecksWrong : ChangeSpec := { name := "confChecks", fn := fun _ => fun
  | [d] => { results := [.lit (.bool false)], args := [d] }
  | _ => none }
def ConfChecksWrongFalsely : Prop := confChecksRow.holds Try.pinned (OpenSpec.ofChange confChecksWrong)

/-- 'pledgelaw06.ConfMost': WHATEVER THE INPUT: true; the input reads as it did. -/
def confMostSpec : ChangeSpec := { name := "confMost", fn := fun _ => fun
  | [d1, d2] => { results := [.lit (.bool true)], args := [d1, d2] }
  | _ => none }
def confMostRow : OpenClaim := { program := "ytfmcbnoldcfcbaa", sum := "772cce9fa8279273df4e190ba0efa820f9e0026569457597f45c2469c0735312", func := "pledge/pledgelaw06.ConfMost", spec := "confMost", unfollowed := true, recurses := true, apart := false }
def ConfMostSaid : Prop := confMostRow.holds Try.pinned (OpenSpec.ofChange confMostSpec)

/-- ITS FALSE NEIGHBOUR: 'it returns false'. Refute it at one input. -/
def confMostWrong : ChangeSpec := { name := "confMost", fn := fun _ => fun
  | [d1, d2] => { results := [.lit (.bool false)], args := [d1, d2] }
  | _ => none }
def ConfMostWrongFalsely : Prop := confMostRow.holds Try.pinned (OpenSpec.ofChange confMostWrong)

/-- 'pledgelaw06.ConfPlain': WHATEVER THE INPUT: true; the input reads as it did. -/
def confPlainSpec : ChangeSpec := { name := "confPlain", fn := fun _ => fun
  | [d1, d2, d3] => { results := [.lit (.bool true)], args := [d1, d2, d3] }
  | _ => none }
def confPlainRow : OpenClaim := { program := "ytfmcbnoldcfcbaa", sum := "772cce9fa8279273df4e190ba0efa820f9e0026569457597f45c2469c0735312", func := "pledge/pledgelaw06.ConfPlain", spec := "confPlain", unfollowed := true, recurses := true, apart := false }
def ConfPlainSaid : Prop := confPlainRow.holds Try.pinned (OpenSpec.ofChange confPlainSpec)

/-- ITS FALSE NEIGHBOUR: 'it returns false'. Refute it at one input. -/
def confPlainWrong : ChangeSpec := { name := "confPlain", fn := fun _ => fun
  | [d1, d2, d3] => { results := [.lit (.bool false)], args := [d1, d2, d3] }
  | _ => none }
def ConfPlainWrongFalsely : Prop := confPlainRow.holds Try.pinned (OpenSpec.ofChange confPlainWrong)

/-- 'pledgelaw06.ConfSmall': WHATEVER THE INPUT: true; the input reads as it did. -/
def confSmallSpec : ChangeSpec := { name := "confSmall", fn := fun _ => fun
  | [d] => { results := [.lit (.bool true)], args := [d] }
  | _ => none }
def confSmallRow : OpenClaim := { program := "ytfmcbnoldcfcbaa", sum := "772cce9fa8279273df4e190ba0efa820f9e0026569457597f45c2469c0735312", func := "pledge/pledgelaw06.ConfSmall", spec := "confSmall", unfollowed := true, recurses := true, apart := false }
def ConfSmallSaid : Prop := confSmallRow.holds Try.pinned (OpenSpec.ofChange confSmallSpec)

/-- ITS FALSE NEIGHBOUR: 'it returns false'. Refute it at one input. -/
def confSmallWrong : ChangeSpec := { name := "confSmall", fn := fun _ => fun
  | [d] => { results := [.lit (.bool false)], args := [d] }
  | _ => none }
def ConfSmallWrongFalsely : Prop := confSmallRow.holds Try.pinned (OpenSpec.ofChange confSmallWrong)

/-- 'pledgelaw06.ConfDecl': WHATEVER THE INPUT: true; the input reads as it did. -/
def confDeclSpec : ChangeSpec := { name := "confDecl", fn := fun _ => fun
  | [d1, d2] => { results := [.lit (.bool true)], args := [d1, d2] }
  | _ => none }
def confDeclRow : OpenClaim := { program := "ytfmcbnoldcfcbaa", sum := "772cce9fa8279273df4e190ba0efa820f9e0026569457597f45c2469c0735312", func := "pledge/pledgelaw06.ConfDecl", spec := "confDecl", unfollowed := true, recurses := true, apart := false }
def ConfDeclSaid : Prop := confDeclRow.holds Try.pinned (OpenSpec.ofChange confDeclSpec)

/-- ITS FALSE NEIGHBOUR: 'it returns false'. Refute it at one input. -/
def confDeclWrong : ChangeSpec := { name := "confDecl", fn := fun _ => fun
  | [d1, d2] => { results := [.lit (.bool false)], args := [d1, d2] }
  | _ => none }
def ConfDeclWrongFalsely : Prop := confDeclRow.holds Try.pinned (OpenSpec.ofChange confDeclWrong)

/- THE SECOND FORM. 'bulk': how many values and letters a reading holds, each counted each time it is reached (what is shared counts as often as it is met; a slice's spare places count too). A statement '..UptoSaid' is the law's where the arguments, and the package variables that the reading takes, are together of bulk at most 1048576: NARROWER than '..Said'. Prove '..Said' where nothing that the law and all that it calls make is longer than what came in: it says more and counts as full. Else prove '..UptoSaid'. A law counts once. -/
mutual
def uptoBulk {H : Type} : DataW H → Nat
  | .lit (.string bytes) => bytes.length + 1
  | .lit _ => 1
  | .nil => 1
  | .ptr d => uptoBulk d + 1
  | .slice elems spare => uptoBulkAll elems + uptoBulkAll spare + 1
  | .agg parts => uptoBulkAll parts + 1
  | .iface _ d => uptoBulk d + 1
  | .map entries => uptoBulkEntries entries + 1
  | .held _ => 1
def uptoBulkAll {H : Type} : List (DataW H) → Nat
  | [] => 0
  | d :: r => uptoBulk d + uptoBulkAll r
def uptoBulkEntries {H : Type} : List (Lit × DataW H) → Nat
  | [] => 0
  | x :: r => uptoBulkEntry x + uptoBulkEntries r
def uptoBulkEntry {H : Type} : Lit × DataW H → Nat
  | (.string bytes, d) => bytes.length + uptoBulk d + 1
  | (_, d) => uptoBulk d + 1
 end
def uptoSmall : (H : Type) → List (DataW H) → Bool := fun _ ds => decide (uptoBulkAll ds ≤ 1048576)
def OpenSpec.upto (s : _root_.Go.ChangeSpec) : _root_.Go.OpenSpec := { _root_.Go.OpenSpec.ofChange s with cond := some uptoSmall }

/-- 'pledgelaw08.TapePlays', WHERE WHAT IT READS IS OF BULK AT MOST 1048576: true; the input reads as it did. -/
def tapePlaysUptoRow : OpenClaim := { program := "ytfmcbnoldcfcbaa", sum := "772cce9fa8279273df4e190ba0efa820f9e0026569457597f45c2469c0735312", func := "pledge/pledgelaw08.TapePlays", spec := "tapePlays", inPlace := ["maps.clone"], apart := false, narrowed := true }
def TapePlaysUptoSaid : Prop := tapePlaysUptoRow.holds Try.pinned (OpenSpec.upto tapePlaysSpec)

/-- 'pledgelaw08.TapeStays', WHERE WHAT IT READS IS OF BULK AT MOST 1048576: true; the input reads as it did. -/
def tapeStaysUptoRow : OpenClaim := { program := "ytfmcbnoldcfcbaa", sum := "772cce9fa8279273df4e190ba0efa820f9e0026569457597f45c2469c0735312", func := "pledge/pledgelaw08.TapeStays", spec := "tapeStays", inPlace := ["maps.clone"], apart := false, narrowed := true }
def TapeStaysUptoSaid : Prop := tapeStaysUptoRow.holds Try.pinned (OpenSpec.upto tapeStaysSpec)

/-- 'pledgelaw08.TapeApart', WHERE WHAT IT READS IS OF BULK AT MOST 1048576: true; the input reads as it did. -/
def tapeApartUptoRow : OpenClaim := { program := "ytfmcbnoldcfcbaa", sum := "772cce9fa8279273df4e190ba0efa820f9e0026569457597f45c2469c0735312", func := "pledge/pledgelaw08.TapeApart", spec := "tapeApart", inPlace := ["maps.clone"], apart := false, narrowed := true }
def TapeApartUptoSaid : Prop := tapeApartUptoRow.holds Try.pinned (OpenSpec.upto tapeApartSpec)

/-- 'pledgelaw08.TapeNil', WHERE WHAT IT READS IS OF BULK AT MOST 1048576: true; the input reads as it did. -/
def tapeNilUptoRow : OpenClaim := { program := "ytfmcbnoldcfcbaa", sum := "772cce9fa8279273df4e190ba0efa820f9e0026569457597f45c2469c0735312", func := "pledge/pledgelaw08.TapeNil", spec := "tapeNil", inPlace := ["maps.clone"], apart := false, narrowed := true }
def TapeNilUptoSaid : Prop := tapeNilUptoRow.holds Try.pinned (OpenSpec.upto tapeNilSpec)

/-- 'pledgelaw06.ConfChecks', WHERE WHAT IT READS IS OF BULK AT MOST 1048576: true; the input reads as it did. -/
def confChecksUptoRow : OpenClaim := { program := "ytfmcbnoldcfcbaa", sum := "772cce9fa8279273df4e190ba0efa820f9e0026569457597f45c2469c0735312", func := "pledge/pledgelaw06.ConfChecks", spec := "confChecks", unfollowed := true, recurses := true, apart := false, narrowed := true }
def ConfChecksUptoSaid : Prop := confChecksUptoRow.holds Try.pinned (OpenSpec.upto confChecksSpec)

/-- 'pledgelaw06.ConfMost', WHERE WHAT IT READS IS OF BULK AT MOST 1048576: true; the input reads as it did. -/
def confMostUptoRow : OpenClaim := { program := "ytfmcbnoldcfcbaa", sum := "772cce9fa8279273df4e190ba0efa820f9e0026569457597f45c2469c0735312", func := "pledge/pledgelaw06.ConfMost", spec := "confMost", unfollowed := true, recurses := true, apart := false, narrowed := true }
def ConfMostUptoSaid : Prop := confMostUptoRow.holds Try.pinned (OpenSpec.upto confMostSpec)

/-- 'pledgelaw06.ConfPlain', WHERE WHAT IT READS IS OF BULK AT MOST 1048576: true; the input reads as it did. -/
def confPlainUptoRow : OpenClaim := { program := "ytfmcbnoldcfcbaa", sum := "772cce9fa8279273df4e190ba0efa820f9e0026569457597f45c2469c0735312", func := "pledge/pledgelaw06.ConfPlain", spec := "confPlain", unfollowed := true, recurses := true, apart := false, narrowed := true }
def ConfPlainUptoSaid : Prop := confPlainUptoRow.holds Try.pinned (OpenSpec.upto confPlainSpec)

/-- 'pledgelaw06.ConfSmall', WHERE WHAT IT READS IS OF BULK AT MOST 1048576: true; the input reads as it did. -/
def confSmallUptoRow : OpenClaim := { program := "ytfmcbnoldcfcbaa", sum := "772cce9fa8279273df4e190ba0efa820f9e0026569457597f45c2469c0735312", func := "pledge/pledgelaw06.ConfSmall", spec := "confSmall", unfollowed := true, recurses := true, apart := false, narrowed := true }
def ConfSmallUptoSaid : Prop := confSmallUptoRow.holds Try.pinned (OpenSpec.upto confSmallSpec)

/-- 'pledgelaw06.ConfDecl', WHERE WHAT IT READS IS OF BULK AT MOST 1048576: true; the input reads as it did. -/
def confDeclUptoRow : OpenClaim := { program := "ytfmcbnoldcfcbaa", sum := "772cce9fa8279273df4e190ba0efa820f9e0026569457597f45c2469c0735312", func := "pledge/pledgelaw06.ConfDecl", spec := "confDecl", unfollowed := true, recurses := true, apart := false, narrowed := true }
def ConfDeclUptoSaid : Prop := confDeclUptoRow.holds Try.pinned (OpenSpec.upto confDeclSpec)

end Rows
end Go.Proofs.Ytfmcbnoldcfcbaa
