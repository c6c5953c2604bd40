/-
  The walks through the package wire: the reader.
-/
import Derived.Test.YtomnhgcjdnhijaaWireBytes
namespace Go.Proofs.Ytomnhgcjdnhijaa
open Go.RowKit

/-- a reader: what was wrong first, the bytes that are left (read outside the blocks X, its box among these) -/
structure ReaderAt (w : World) (g : Nat) (X : Nat → Prop) (e : Int) (l : List UInt8) : Prop where
  self : X g
  box : ∃ a n c, Box w g 108 [.int .i64 e, .slice a n c] ∧ l.length = n ∧ n ≤ c ∧ c ≤ maxLen ∧ RX w X a l
/-- the blocks that the bytes of a new reader don't lie in -/
def OutX (n g : Nat) : Nat → Prop := fun k => k < n ∨ g ≤ k

theorem wire_read (a : Option Addr) (len cap : Nat) (b : List UInt8) (w : World) (hn : b.length = len) (hr : RB w a b) (hm : len ≤ 140737488355327) :
    Calls Try.prog 43 #[.slice a len cap] w fun r w' => ∃ g, r = .returned (.pointer (some ⟨g, 0, none⟩)) ∧ w.heap.size ≤ g ∧ ReaderAt w' g (OutX w.heap.size g) 0 b ∧ w.grownBy w' none := by
  have HN := Lib.hid hn; have HR := Lib.hid hr
  clear hn hr
  go_enter Try.func43, Try.ntmps43
  go_wp2_with (at_builtin; refine wpList_append_bytes2 (o := ⟨some 5, _, _, _, _, _⟩) rfl _ _ rfl w.heap.size _ [] rfl (OwnB.made w #[] 0 (by simp [maxLen]) rfl) a _ cap b rfl (HR.out.alloc _) HN.out (by simp; omega) (by simp) ?_)
  intro v2 w2 ho2 hg2 hk2
  obtain ⟨a2, n2, c2, rfl, hn2⟩ := ho2.len
  have hgw := grown_new (World.grownBy_alloc w _ none) (Nat.le_refl _) hg2
  have hle : n2 ≤ c2 ∧ c2 ≤ maxLen := by
    rcases ho2.2 with ⟨hv, _⟩ | ⟨q, cp, cur, hv, _, _, hnc, hcm, _⟩
    · cases hv; exact ⟨Nat.le_refl _, by simp [maxLen]⟩
    · cases hv; exact ⟨hnc, hcm⟩
  have HO2 := Lib.hid ho2; have HG2 := Lib.hid hgw; have HN2 := Lib.hid hn2; have HLE := Lib.hid hle
  clear ho2 hg2 hk2 hn2 hgw hle
  go_wp2_with fail
  go_ret
  have hg := World.grownBy_alloc w2 (.cells #[.int .i64 0, .slice a2 n2 c2] 108) none
  refine ⟨w2.heap.size, rfl, HG2.out.size, ⟨.inr (Nat.le_refl _), a2, n2, c2, Box.new w2 108 [.int .i64 0, .slice a2 n2 c2] w2.heap.size rfl, HN2.out, HLE.out.1, HLE.out.2, ?_⟩, grown_trans HG2.out hg⟩
  refine RX.kept (w := w2) ?_ (Kept.of_grown hg)
  intro i hi
  obtain ⟨b', o, e, hc⟩ := (show RB w2 a2 b from RB.of_own HO2.out) i hi
  have hlt := World.block_lt_of_cell? w2 _ hc
  have hge : w.heap.size ≤ b' := by
    subst e
    rcases HO2.out.2 with ⟨hv, _⟩ | ⟨q, cp, cur, hv, hq, _⟩
    · cases hv
    · cases hv; exact hq
  exact ⟨b', o, e, fun h => by simp only at hlt; rcases h with h | h <;> omega, hc⟩

theorem wire_err {w : World} {g : Nat} {X : Nat → Prop} {e : Int} {l : List UInt8} (R : ReaderAt w g X e l) :
    Calls Try.prog 45 #[.pointer (some ⟨g, 0, none⟩)] w fun r w' => r = .returned (.int .i64 e) ∧ w = w' := by
  obtain ⟨a, n, c, hb, _⟩ := R.box
  have c0 := hb.cell 0 rfl
  clear R hb
  go_enter Try.func45, Try.ntmps45
  go_wp2_with fail
  go_ret
  exact ⟨rfl, rfl⟩
theorem wire_err_nil (w : World) :
    Calls Try.prog 45 #[.pointer none] w fun r w' => r = .returned (.int .i64 1) ∧ w = w' := by
  go_enter Try.func45, Try.ntmps45
  go_wp2_with fail
  go_ret
  exact ⟨rfl, rfl⟩
theorem wire_left {w : World} {g : Nat} {X : Nat → Prop} {e : Int} {l : List UInt8} (R : ReaderAt w g X e l) :
    Calls Try.prog 66 #[.pointer (some ⟨g, 0, none⟩)] w fun r w' => r = .returned (.int .i64 (if e = 0 then (l.length : Int) else 0)) ∧ w = w' := by
  obtain ⟨a, n, c, hb, hn, _⟩ := R.box
  have c0 := hb.cell 0 rfl
  have c1 := hb.cell 1 rfl
  rw [hn]
  have HB := Lib.hid hb
  clear R hb hn
  by_cases h : e = 0
  · subst h
    go_enter Try.func66, Try.ntmps66
    go_wp2_with fail
    refine (wire_fine HB.out).mono ?_
    rintro r w1 ⟨rfl, rfl⟩
    go_wp2_with fail
    go_ret
    exact ⟨rfl, rfl⟩
  · have h' : (e == 0) = false := by simpa using h
    go_enter Try.func66, Try.ntmps66
    go_wp2_with fail
    refine (wire_fine HB.out).mono ?_
    rintro r w1 ⟨rfl, rfl⟩
    go_wp2_with fail
    go_ret
    exact ⟨rfl, rfl⟩

theorem wire_left_nil (w : World) :
    Calls Try.prog 66 #[.pointer none] w fun r w' => r = .returned (.int .i64 0) ∧ w = w' := by
  go_enter Try.func66, Try.ntmps66
  go_wp2_with fail
  go_ret
  exact ⟨rfl, rfl⟩
theorem wire_end_nil (w : World) :
    Calls Try.prog 47 #[.pointer none] w fun r w' => r = .returned (.int .i64 1) ∧ w = w' := by
  go_enter Try.func47, Try.ntmps47
  go_wp2_with fail
  refine (wire_left_nil w).mono ?_
  rintro r w1 ⟨rfl, rfl⟩
  go_wp2_with fail
  refine (wire_err_nil w).mono ?_
  rintro r w1 ⟨rfl, rfl⟩
  go_wp2_with fail
  go_ret
  exact ⟨rfl, rfl⟩

end Go.Proofs.Ytomnhgcjdnhijaa
