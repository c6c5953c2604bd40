/-
  Tapes that are nil; the chapter's example.
-/
import Derived.Test.YtfmcbnoldcfcbaaTDrop
namespace Go.Proofs.Ytfmcbnoldcfcbaa
open Go.RowKit
set_option maxRecDepth 100000

theorem tape_append_nil (v : Value) (w : World) : Calls Try.prog 23 #[.pointer none, v] w fun r w' => r = .returned (.tuple #[]) ∧ w' = w := by
  go_enter Try.func23, Try.ntmps23
  go_wp2_with fail
  refine bodyPost_ret (results_none rfl _ _ _) rfl ?_
  exact ⟨rfl, rfl⟩
theorem tape_drop_nil (n : Int) (w : World) : Calls Try.prog 24 #[.pointer none, .int .i64 n] w fun r w' => r = .returned (.tuple #[]) ∧ w' = w := by
  go_enter Try.func24, Try.ntmps24
  go_wp2_with fail
  refine bodyPost_ret (results_none rfl _ _ _) rfl ?_
  exact ⟨rfl, rfl⟩
theorem tape_cut_nil (n : Int) (w : World) : Calls Try.prog 25 #[.pointer none, .int .i64 n] w fun r w' => r = .returned (.tuple #[]) ∧ w.grownBy w' none := by
  go_enter Try.func25, Try.ntmps25
  go_wp2_with fail
  refine bodyPost_ret (results_none rfl _ _ _) rfl ?_
  exact ⟨rfl, World.grownBy.refl _ _⟩
theorem tape_bytes_nil (n : Int) (w : World) : Calls Try.prog 18 #[.pointer none, .int .i64 n] w fun r w' => r = .returned (.slice none 0 0) ∧ w.grownBy w' none := by
  go_enter Try.func18, Try.ntmps18
  go_wp2_with fail
  go_ret
  exact ⟨rfl, World.grownBy.refl _ _⟩
theorem tape_copy_nil (w : World) : Calls Try.prog 22 #[.pointer none] w fun r w' => r = .returned (.pointer (some ⟨w.heap.size + 1, 0, none⟩)) ∧ TapeIs w' (w.heap.size + 1) w.heap.size (w.heap.size + 2) 64 0 [] [] ∧ w.grownBy w' none := by
  have HN := Lib.hid (tape_new 0 w)
  rw [show clampS 0 = 64 from rfl] at HN
  go_enter Try.func22, Try.ntmps22
  go_wp2_with fail
  refine HN.out.mono ?_
  rintro r w1 ⟨rfl, ht, hg⟩
  have HT := Lib.hid ht; have HG := Lib.hid hg
  clear ht hg
  go_wp2_with fail
  go_ret
  exact ⟨rfl, HT.out, HG.out⟩
theorem below_of_kept {X : Nat → Prop} {w a b : World} (h : Below w.heap.size w a) (hk : Kept X a b) (hX : ∀ k, X k → w.heap.size ≤ k) : Below w.heap.size w b :=
  ⟨hk.os.trans h.os, hk.tape.trans h.tape, hk.output.trans h.output, Nat.le_trans h.size hk.size, fun k hlt => (hk.block k (Nat.lt_of_lt_of_le hlt h.size) (fun hx => by have := hX k hx; omega)).trans (h.block k hlt)⟩
theorem below_of_grown {w a b : World} (h : Below w.heap.size w a) (hg : a.grownBy b none) : Below w.heap.size w b := below_of_kept (X := fun _ => False) h (Kept.of_grown hg) (fun _ h => h.elim)
theorem made_zero (n : Nat) : madeCells #[.int .u8 0] n = ((List.replicate n (0 : UInt8)).map bval).toArray := by
  apply Array.toList_inj.1
  rw [toList_madeCells_one, List.toList_toArray, List.map_replicate]
  rfl
set_option maxHeartbeats 12800000 in
theorem tape_works (w : World) : Calls Try.prog 13 #[] w fun r w' => r = .returned (.bool true) ∧ Below w.heap.size w w' := by
  have HN := Lib.hid (tape_new 64 w)
  rw [show clampS 64 = 64 from rfl] at HN
  have hmk : ∀ u, (Instr.makeSlice 27 (.int .i64 130) (.int .i64 130)).run Try.prog u = .ok (.slice (some ⟨u.heap.size, 0, none⟩) 130 130) (u.alloc (.cells (madeCells #[.int .u8 0] 130) 5)) := fun u => make_bytes 130 (by decide) u
  go_enter Try.func13, Try.ntmps13
  go_wp2_with fail
  refine HN.out.mono ?_
  rintro r w1 ⟨rfl, ht, hg⟩
  obtain ⟨b, hb⟩ : ∃ b, List.replicate 130 (0 : UInt8) = b := ⟨_, rfl⟩
  have hbl : b.length = 130 := by rw [← hb]; rfl
  have hlt1 := ht.box.lt
  have hrb := RB.const w1 (madeCells #[.int .u8 0] 130) 5 (0, 0) b w1.heap.size rfl (by rw [← hb]; exact made_zero 130)
  have hgw := World.grownBy_alloc w1 (.cells (madeCells #[.int .u8 0] 130) 5) none
  have hsz : (w1.alloc (.cells (madeCells #[.int .u8 0] 130) 5)).heap.size = w1.heap.size + 1 := by simp
  have HA := Lib.hid (tape_append (w.heap.size + 1) w.heap.size (w.heap.size + 2) 64 0 [] b [] (some ⟨w1.heap.size, 0, none⟩) 130 130 _ (ht.grown hgw) (by rw [hsz]; omega)
    (RX.of_rb hrb (fun ad e _ hx => by
      cases e
      rcases hx with h | h | ⟨v, hv, _⟩
      · simp only at h; omega
      · simp only at h; omega
      · simp at hv)) hbl (Nat.le_refl _) (by unfold maxLen; omega) (by simp))
  have HB1 := Lib.hid (below_of_grown (grown_below hg) hgw)
  clear ht hg hb hlt1 hrb hgw hsz
  go_wp2_with fail
  generalize w1.alloc (.cells (madeCells #[.int .u8 0] 130) 5) = w2 at *
  refine HA.out.mono ?_
  rintro r w3 ⟨rfl, vs, ht, hro, hk⟩
  have HD := Lib.hid (tape_drop _ _ _ 64 0 ([] ++ b) vs 129 w3 ht (by rw [List.nil_append, hbl]; decide) (by decide))
  rw [List.nil_append, hbl, show dropN 64 0 130 129 = 2 by decide] at HD
  have HB2 := Lib.hid (below_of_kept HB1.out hk (fun k hx => by
    rcases hx with h | h | ⟨v, hv, _⟩
    · omega
    · omega
    · simp at hv))
  clear ht hro hk hmk
  go_wp2_with fail
  refine HD.out.mono ?_
  rintro r w4 ⟨rfl, ht, hk⟩
  have hl2 : (b.drop (2 * 64)).length = 2 := by rw [List.length_drop, hbl]
  have HF := Lib.hid (tape_first _ _ _ _ _ _ _ w4 ht (by decide))
  have HT := Lib.hid ht
  have HL := Lib.hid (fun _ : True => hl2)
  have HB3 := Lib.hid (below_of_kept HB2.out hk (fun k hx => by rcases hx with h | h <;> omega))
  clear ht hk hbl hl2
  go_wp2_with fail
  refine HF.out.mono ?_
  rintro r w5 ⟨rfl, hg5⟩
  have ht5 := HT.out.grown hg5
  have HS := Lib.hid (tape_segs _ _ _ _ _ _ _ w5 ht5)
  have HE := Lib.hid (tape_end _ _ _ _ _ _ _ w5 ht5)
  rw [HL.out trivial] at HS HE
  rw [show nSeg 64 2 = 1 by decide] at HS
  rw [show (0 + 2) * 64 + 2 = 130 by decide] at HE
  have HB5 := Lib.hid (below_of_grown HB3.out hg5)
  clear ht5 hg5
  go_wp2_with fail
  refine HS.out.mono ?_
  rintro r w6 ⟨rfl, rfl⟩
  go_wp2_with fail
  refine HE.out.mono ?_
  rintro r w7 ⟨rfl, rfl⟩
  go_wp2_with fail
  go_ret
  exact ⟨rfl, HB5.out⟩
set_option maxHeartbeats 12800000 in
theorem tapeNil_walk (v : Value) (n : Int) (w : World) : Calls Try.prog 6 #[v, .int .i64 n] w fun r w' => r = .returned (.bool true) ∧ Below w.heap.size w w' := by
  go_enter Try.func6, Try.ntmps6
  go_wp2_with fail
  refine (tape_append_nil v w).mono ?_
  rintro r w1 ⟨rfl, rfl⟩
  go_wp2_with fail
  refine (tape_drop_nil n _).mono ?_
  rintro r w2 ⟨rfl, rfl⟩
  go_wp2_with fail
  refine (tape_cut_nil n _).mono ?_
  rintro r w3 ⟨rfl, hg3⟩
  have HB3 := Lib.hid (grown_below hg3)
  clear hg3
  go_wp2_with fail
  refine (tape_first_nil _).mono ?_
  rintro r w4 ⟨rfl, rfl⟩
  go_wp2_with fail
  refine (tape_end_nil _).mono ?_
  rintro r w5 ⟨rfl, rfl⟩
  go_wp2_with fail
  refine (tape_segs_nil _).mono ?_
  rintro r w6 ⟨rfl, rfl⟩
  go_wp2_with fail
  refine (tape_bytes_nil n _).mono ?_
  rintro r w7 ⟨rfl, hg7⟩
  have HB7 := Lib.hid (below_of_grown HB3.out hg7)
  clear hg7
  go_wp2_with fail
  refine (tape_copy_nil _).mono ?_
  rintro r w8 ⟨rfl, ht8, hg8⟩
  have HB8 := Lib.hid (below_of_grown HB7.out hg8)
  have HE := Lib.hid (tape_end _ _ _ _ _ _ _ w8 ht8)
  rw [show 0 * 64 + ([] : List UInt8).length = 0 by decide] at HE
  clear hg8 ht8
  go_wp2_with fail
  refine HE.out.mono ?_
  rintro r w9 ⟨rfl, rfl⟩
  go_wp2_with fail
  refine (tape_works _).mono ?_
  rintro r w10 ⟨rfl, hb10⟩
  have HB10 := Lib.hid (HB8.out.trans (hb10.mono (HB8.out.size)))
  clear hb10
  go_wp2_with fail
  go_ret
  exact ⟨rfl, HB10.out⟩

end Go.Proofs.Ytfmcbnoldcfcbaa
