/-
  A new tape; its ends.
-/
import Derived.Test.YtkemocbifancfaaTBase
namespace Go.Proofs.Ytkemocbifancfaa
open Go.RowKit
set_option maxRecDepth 100000

/-- how great a segment is -/
def clampS (x : Int) : Nat := if x < 64 then 64 else if 4096 < x then 4096 else x.toNat
theorem clampS_le (x : Int) : 64 ≤ clampS x ∧ clampS x ≤ 4096 := by unfold clampS; split <;> (try split) <;> omega
theorem max_intS (x y m : Int) (h : m = max x y) (u : World) : (Builtin.max_ #[3, 3] 3 #[.int .i64 x, .int .i64 y]).run Try.prog u = .ok (.int .i64 m) u := by
  subst h
  simp only [Builtin.max_, List.foldlM_cons, List.foldlM_nil, Builtin.max2, Sem.run_bind, Sem.run_pure, Result.andThen_ok]
  congr 2
  split <;> omega
theorem ret_int {a b : Int} (h : a = b) : Ending.returned (.int .i64 a) = .returned (.int .i64 b) := by rw [h]
theorem tape_new (x : Int) (w : World) : Calls Try.prog 40 #[.int .i64 x] w fun r w' =>
    r = .returned (.pointer (some ⟨w.heap.size + 1, 0, none⟩)) ∧ TapeIs w' (w.heap.size + 1) w.heap.size (w.heap.size + 2) (clampS x) 0 [] [] ∧ w.grownBy w' none := by
  have m1 := max_intS x 64 _ rfl
  have m2 := min_int (max x 64) 4096 (clampS x : Nat) (by unfold clampS; split <;> (try split) <;> omega)
  have HT := Lib.hid (TapeIs.made w (clampS x) (clampS_le x))
  generalize clampS x = s at *
  generalize max x 64 = y at *
  have hmm := @run_makeMap Try.prog
  go_enter Try.func40, Try.ntmps40
  go_wp2_with fail
  go_ret
  exact ⟨rfl, HT.out, grown_trans (World.grownBy_alloc _ _ none) (World.grownBy_alloc _ _ none)⟩
theorem tape_end (g M B s f : Nat) (l : List UInt8) (vs : List Value) (w : World) (h : TapeIs w g M B s f l vs) : Calls Try.prog 70 #[.pointer (some ⟨g, 0, none⟩)] w fun r w' => r = .returned (.int .i64 ((f * s + l.length : Nat) : Int)) ∧ w' = w := by
  have hl := h.box.cell 3 rfl
  generalize f * s + l.length = e at *
  clear h
  go_enter Try.func70, Try.ntmps70
  go_wp2_with fail
  go_ret
  exact ⟨rfl, rfl⟩
theorem tape_end_nil (w : World) : Calls Try.prog 70 #[.pointer none] w fun r w' => r = .returned (.int .i64 0) ∧ w' = w := by
  go_enter Try.func70, Try.ntmps70
  go_wp2_with fail
  go_ret
  exact ⟨rfl, rfl⟩
theorem tape_first_nil (w : World) : Calls Try.prog 69 #[.pointer none] w fun r w' => r = .returned (.int .i64 0) ∧ w' = w := by
  go_enter Try.func69, Try.ntmps69
  go_wp2_with fail
  go_ret
  exact ⟨rfl, rfl⟩
theorem tape_segs_nil (w : World) : Calls Try.prog 71 #[.pointer none] w fun r w' => r = .returned (.int .i64 0) ∧ w' = w := by
  go_enter Try.func71, Try.ntmps71
  go_wp2_with fail
  go_ret
  exact ⟨rfl, rfl⟩
theorem tape_segs (g M B s f : Nat) (l : List UInt8) (vs : List Value) (w : World) (h : TapeIs w g M B s f l vs) : Calls Try.prog 71 #[.pointer (some ⟨g, 0, none⟩)] w fun r w' => r = .returned (.int .i64 ((nSeg s l.length : Nat) : Int)) ∧ w' = w := by
  have hl := h.box.cell 0 rfl
  have hsz := h.map.size
  rw [ents_len, h.len] at hsz
  generalize nSeg s l.length = q at *
  clear h
  go_enter Try.func71, Try.ntmps71
  go_wp2_with fail
  go_ret
  exact ⟨rfl, rfl⟩
theorem tape_first (g M B s f : Nat) (l : List UInt8) (vs : List Value) (w : World) (h : TapeIs w g M B s f l vs) (hb : f * s ≤ 9223372036854775807) : Calls Try.prog 69 #[.pointer (some ⟨g, 0, none⟩)] w fun r w' => r = .returned (.int .i64 ((f * s : Nat) : Int)) ∧ w.grownBy w' none := by
  have l1 : ∀ u, w.grownBy u none → u.cell? ⟨g, 1, none⟩ = some (.int .i64 (s : Int)) := fun u hu => (h.box.grown hu).cell 1 rfl
  have l2 : ∀ u, w.grownBy u none → u.cell? ⟨g, 2, none⟩ = some (.int .i64 (f : Int)) := fun u hu => (h.box.grown hu).cell 2 rfl
  have l1 := l1 w (World.grownBy.refl _ _)
  have l2 := l2 w (World.grownBy.refl _ _)
  obtain ⟨e, he⟩ : ∃ e, f * s = e := ⟨_, rfl⟩
  have hm : (f : Int) * (s : Int) = (e : Int) := by rw [← he]; push_cast; rfl
  rw [he] at hb ⊢
  clear h he
  go_enter Try.func69, Try.ntmps69
  go_wp2_with fail
  go_quiet (fail)
  go_wp2_with fail
  go_ret
  exact ⟨ret_int (by first | rfl | (rw [hm]; unfold wrap64; omega) | (unfold wrap64; omega)), grown_drewN _ _⟩

end Go.Proofs.Ytkemocbifancfaa
