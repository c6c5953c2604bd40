/-
  Tapes that are nil; the chapter's example.
-/
import Derived.Test.YtkemocbifancfaaTDrop
namespace Go.Proofs.Ytkemocbifancfaa
open Go.RowKit
set_option maxRecDepth 100000

theorem tape_append_nil (v : Value) (w : World) : Calls Try.prog 58 #[.pointer none, v] w fun r w' => r = .returned (.tuple #[]) ∧ w' = w := by
  go_enter Try.func58, Try.ntmps58
  go_wp2_with fail
  refine bodyPost_ret (results_none rfl _ _ _) rfl ?_
  exact ⟨rfl, rfl⟩
theorem tape_drop_nil (n : Int) (w : World) : Calls Try.prog 59 #[.pointer none, .int .i64 n] w fun r w' => r = .returned (.tuple #[]) ∧ w' = w := by
  go_enter Try.func59, Try.ntmps59
  go_wp2_with fail
  refine bodyPost_ret (results_none rfl _ _ _) rfl ?_
  exact ⟨rfl, rfl⟩
theorem tape_cut_nil (n : Int) (w : World) : Calls Try.prog 60 #[.pointer none, .int .i64 n] w fun r w' => r = .returned (.tuple #[]) ∧ w.grownBy w' none := by
  go_enter Try.func60, Try.ntmps60
  go_wp2_with fail
  refine bodyPost_ret (results_none rfl _ _ _) rfl ?_
  exact ⟨rfl, World.grownBy.refl _ _⟩
theorem tape_bytes_nil (n : Int) (w : World) : Calls Try.prog 54 #[.pointer none, .int .i64 n] w fun r w' => r = .returned (.slice none 0 0) ∧ w.grownBy w' none := by
  go_enter Try.func54, Try.ntmps54
  go_wp2_with fail
  go_ret
  exact ⟨rfl, World.grownBy.refl _ _⟩
theorem tape_copy_nil (w : World) : Calls Try.prog 62 #[.pointer none] w fun r w' => r = .returned (.pointer (some ⟨w.heap.size + 1, 0, none⟩)) ∧ TapeIs w' (w.heap.size + 1) w.heap.size (w.heap.size + 2) 64 0 [] [] ∧ w.grownBy w' none := by
  have HN := Lib.hid (tape_new 0 w)
  rw [show clampS 0 = 64 from rfl] at HN
  go_enter Try.func62, Try.ntmps62
  go_wp2_with fail
  refine HN.out.mono ?_
  rintro r w1 ⟨rfl, ht, hg⟩
  have HT := Lib.hid ht; have HG := Lib.hid hg
  clear ht hg
  go_wp2_with fail
  go_ret
  exact ⟨rfl, HT.out, HG.out⟩
theorem below_of_kept {X : Nat → Prop} {w a b : World} (h : Below w.heap.size w a) (hk : Kept X a b) (hX : ∀ k, X k → w.heap.size ≤ k) : Below w.heap.size w b :=
  ⟨hk.os.trans h.os, hk.tape.trans h.tape, hk.output.trans h.output, Nat.le_trans h.size hk.size, fun k hlt => (hk.block k (Nat.lt_of_lt_of_le hlt h.size) (fun hx => by have := hX k hx; omega)).trans (h.block k hlt)⟩
theorem below_of_grown {w a b : World} (h : Below w.heap.size w a) (hg : a.grownBy b none) : Below w.heap.size w b := below_of_kept (X := fun _ => False) h (Kept.of_grown hg) (fun _ h => h.elim)
theorem made_zero (n : Nat) : madeCells #[.int .u8 0] n = ((List.replicate n (0 : UInt8)).map bval).toArray := by
  apply Array.toList_inj.1
  rw [toList_madeCells_one, List.toList_toArray, List.map_replicate]
  rfl
end Go.Proofs.Ytkemocbifancfaa
