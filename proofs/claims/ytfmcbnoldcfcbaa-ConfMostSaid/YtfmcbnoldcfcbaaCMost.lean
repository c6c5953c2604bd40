/-
  ConfMost.
-/
import Derived.Test.YtfmcbnoldcfcbaaCWorks
namespace Go.Proofs.Ytfmcbnoldcfcbaa
open Go.RowKit
set_option maxRecDepth 100000

theorem confMost_walk (x y : Int) (w : World) : Calls Try.prog 8 #[.int .i64 x, .int .i64 y] w fun e w' => e = .returned (.bool true) ∧ Below w.heap.size w w' := by
  have H1 := Lib.hid (fun u => conf_most x y u)
  have H2 := Lib.hid (fun u => ref_most x y u)
  have H3 := Lib.hid (fun u => conf_works u)
  generalize mostF x y = m at *
  go_enter Try.func8, Try.ntmps8
  go_wp2_with (first
    | (go_at_call 35; (with_reducible refine (H1.out _).mono ?_); rintro r w1 ⟨rfl, rfl⟩)
    | (go_at_call 36; (with_reducible refine (H2.out _).mono ?_); rintro r w2 ⟨rfl, rfl⟩)
    | (go_at_call 26; (with_reducible refine (H3.out _).mono ?_); rintro r w3 ⟨rfl, hg⟩))
  go_ret
  exact ⟨rfl, grown_below (by with_reducible assumption)⟩

end Go.Proofs.Ytfmcbnoldcfcbaa
