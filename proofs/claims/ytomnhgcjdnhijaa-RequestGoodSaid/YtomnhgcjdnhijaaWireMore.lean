/-
  The walks through the package wire: 'Int', 'Bool', 'Bytes', 'Len', 'Done'.
-/
import Derived.Test.YtomnhgcjdnhijaaWireNum
namespace Go.Proofs.Ytomnhgcjdnhijaa
open Go.RowKit

theorem wire_int {w : World} {g : Nat} {e : Int} {v : Value} {l : List UInt8} {most : Nat} (W : WriterAt w g e v l most) (x : Int) (y : Nat) (hy : IntKind.u64.wrap x = (y : Int)) (hm : Room most l 8) :
    Calls Try.prog 37 #[.pointer (some ⟨g, 0, none⟩), .int .i64 x] w fun r w' => r = .returned (.tuple #[]) ∧ WPost w g v most (numW most (e, l) y 8) r w' := by
  have hlt : y < 18446744073709551616 := by
    have : IntKind.u64.wrap x < 18446744073709551616 := by simp [IntKind.wrap, IntKind.signed, IntKind.bits]; omega
    omega
  have HC := Lib.hid (wire_num W y hlt 8 hm)
  clear W hlt
  go_enter Try.func37, Try.ntmps37
  go_wp2_with fail
  refine HC.out.mono ?_
  rintro r w1 ⟨rfl, hp⟩
  have HP := Lib.hid hp; clear hp
  go_wp2_with fail
  go_end0
  exact ⟨rfl, HP.out⟩
theorem wire_int_nil (w : World) (x : Int) :
    Calls Try.prog 37 #[.pointer none, .int .i64 x] w fun r w' => r = .returned (.tuple #[]) ∧ w = w' := by
  go_enter Try.func37, Try.ntmps37
  go_wp2_with fail
  refine (wire_num_nil w _ 8).mono ?_
  rintro r w1 ⟨rfl, rfl⟩
  go_wp2_with fail
  go_end0
  exact ⟨rfl, rfl⟩

/-- what 'Done' tells -/
def DonePost (w : World) (e : Int) (l : List UInt8) (r : Ending) (w' : World) : Prop :=
  ∃ a n c, r = .returned (.tuple #[.slice a n c, .int .i64 e]) ∧ n = (if e = 0 then l.length else 0) ∧ (e = 0 → RB w' a l) ∧ (∀ ad, a = some ad → w.heap.size ≤ ad.block) ∧ w.grownBy w' none

theorem wire_done_nil (w : World) :
    Calls Try.prog 39 #[.pointer none] w fun r w' => r = .returned (.tuple #[.slice none 0 0, .int .i64 1]) ∧ w = w' := by
  go_enter Try.func39, Try.ntmps39
  go_wp2_with fail
  go_ret2
  exact ⟨rfl, rfl⟩

theorem wire_done {w : World} {g : Nat} {e : Int} {v : Value} {l : List UInt8} {most : Nat} (W : WriterAt w g e v l most) (hm : Room most l 0) :
    Calls Try.prog 39 #[.pointer (some ⟨g, 0, none⟩)] w (DonePost w e l) := by
  obtain ⟨va, vn, vc, rfl, hvn⟩ := W.row.len
  have c0 := W.box.cell 0 rfl
  have c1 := W.box.cell 1 rfl
  have hfit := W.fit
  have hm0 : l.length ≤ 140737488355327 := by
    rcases hm.room with h | h <;> omega
  clear hm
  have HW := Lib.hid W; have HVN := Lib.hid hvn
  rw [hvn] at hfit hm0
  clear W hvn
  by_cases h : e = 0
  · subst h
    go_enter Try.func39, Try.ntmps39
    go_wp2_with fail
    refine (wire_fine HW.out.box).mono ?_
    rintro r w1 ⟨rfl, rfl⟩
    have c1a := fun o => (HW.out.box.alloc o).cell 1 rfl
    go_wp2_with (at_builtin; refine wpList_append_bytes2 (o := ⟨some 23, _, _, _, _, _⟩) rfl _ _ rfl w.heap.size _ [] rfl (OwnB.made w #[] 0 (by simp [maxLen]) rfl) va _ vc l rfl ((RB.of_own HW.out.row).alloc _) HVN.out (by simp; omega) (by simp) ?_)
    intro v2 w2 ho2 hg2 hk2
    obtain ⟨a2, n2, c2, rfl, hn2⟩ := ho2.len
    have HO2 := Lib.hid ho2; have HG2 := Lib.hid hg2; have HK2 := Lib.hid hk2; have HN2 := Lib.hid hn2
    clear ho2 hg2 hk2 hn2
    go_wp2_with fail
    go_ret2
    have hrx : RB w2 a2 l := RB.of_own HO2.out
    refine ⟨a2, n2, c2, rfl, by rw [if_pos rfl, HN2.out], fun _ => hrx, fun ad h => ?_, ?_⟩
    · subst h
      rcases HO2.out.2 with ⟨hv, _⟩ | ⟨q, cap, cur, hv, hb, _⟩
      · cases hv
      · cases hv; exact hb
    · exact grown_new (World.grownBy_alloc w _ none) (Nat.le_refl _) HG2.out
  · have h' : (e == 0) = false := by simpa using h
    go_enter Try.func39, Try.ntmps39
    go_wp2_with fail
    refine (wire_fine HW.out.box).mono ?_
    rintro r w1 ⟨rfl, rfl⟩
    go_wp2_with fail
    go_quiet (fail)
    go_wp2_with fail
    go_ret2
    exact ⟨none, 0, 0, rfl, by rw [if_neg h], fun h0 => absurd h0 h, fun _ h1 => (by cases h1), grown_drewN _ _⟩

end Go.Proofs.Ytomnhgcjdnhijaa
