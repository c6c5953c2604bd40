/-
  The walks through the package wire: 'Bytes', and nil.
-/
import Derived.Test.YtomnhgcjdnhijaaWireMore
namespace Go.Proofs.Ytomnhgcjdnhijaa
open Go.RowKit

theorem wire_bytes_nil (w : World) (b : Value) :
    Calls Try.prog 52 #[.pointer none, b] w fun r w' => r = .returned (.tuple #[]) ∧ w = w' := by
  go_enter Try.func52, Try.ntmps52
  go_wp2_with fail
  go_end0
  exact ⟨rfl, rfl⟩

theorem OwnB.lit (w : World) (l : List UInt8) (C : Array Value) (n : Nat) (hC : C = (l.map bval).toArray) (hn : n = l.length) (hm : n ≤ maxLen) : OwnB (w.alloc (.cells C 5)) w.heap.size (.slice (some ⟨w.heap.size, 0, none⟩) n n) l := by
  subst hC hn
  exact ⟨by simp, .inr ⟨w.heap.size, l.length, (l.map bval).toArray, rfl, Nat.le_refl _, heap_alloc_new w _, Nat.le_refl _, hm, by simp, List.take_of_length_le (by simp)⟩⟩

theorem numB2 (x n : Nat) : (numB x n).length = n := by simp [numB]
/-- what 'Bytes' does -/
def bytesW (most : Nat) (s : Int × List UInt8) (b : List UInt8) : Int × List UInt8 :=
  if 65535 < b.length then wrongW s 7 else rawW most s (numB b.length 2 ++ b)

set_option maxRecDepth 100000 in
set_option maxHeartbeats 1600000 in
theorem wire_bytes {w : World} {g : Nat} {e : Int} {v : Value} {l : List UInt8} {most : Nat} (W : WriterAt w g e v l most) (a : Option Addr) (len cap : Nat) (b : List UInt8) (hn : b.length = len) (hr : RB w a b) (hm : Room most l (2 + len)) :
    Calls Try.prog 52 #[.pointer (some ⟨g, 0, none⟩), .slice a len cap] w fun r w' => r = .returned (.tuple #[]) ∧ WPost w g v most (bytesW most (e, l) b) r w' := by
  have HW := Lib.hid W; have HN := Lib.hid hn; have HR := Lib.hid hr
  clear W hn hr
  by_cases h : (65535 : Int) < (len : Int)
  · go_enter Try.func52, Try.ntmps52
    go_wp2_with fail
    refine (wire_wrong HW.out.box 7).mono ?_
    rintro r w1 ⟨rfl, hb, hg⟩
    have HB := Lib.hid (wrong_post HW.out hb hg)
    clear hb hg
    go_wp2_with fail
    go_end0
    refine ⟨rfl, ?_⟩
    unfold bytesW
    rw [if_pos (by rw [HN.out]; omega)]
    exact HB.out _
  · go_enter Try.func52, Try.ntmps52
    go_wp2_with (at_builtin; refine wpList_append_bytes2 (o := ⟨some 14, _, _, _, _, _⟩) rfl _ _ rfl w.heap.size _ (numB len 2) rfl (OwnB.lit w (numB len 2) _ 2 (by simp [numB, bval, List.range_succ]; omega) rfl (by simp [maxLen])) a _ cap b rfl (HR.out.alloc _) HN.out (by simp [numB]; omega) (by simp) ?_)
    intro v2 w2 ho2 hg2 hk2
    obtain ⟨a2, n2, c2, rfl, hn2⟩ := ho2.len
    have hgw := grown_new (World.grownBy_alloc w _ none) (Nat.le_refl _) hg2
    have HO2 := Lib.hid (RB.of_own ho2); have HG2 := Lib.hid hgw; have HN2 := Lib.hid hn2
    clear ho2 hg2 hk2 hn2 hgw
    go_wp2_with fail
    refine (wire_raw (HW.out.grown HG2.out) a2 n2 c2 _ HN2.out HO2.out (hm.few (by rw [← HN2.out, List.length_append, numB2, HN.out]; omega))).mono ?_
    rintro r w3 ⟨rfl, v', hw', hwr⟩
    have HA := Lib.hid hw'; have HB := Lib.hid hwr
    clear hw' hwr
    go_wp2_with fail
    go_end0
    refine ⟨rfl, ?_⟩
    unfold bytesW
    rw [if_neg (by rw [HN.out]; omega), HN.out]
    exact ⟨v', HA.out, HB.out.behind HG2.out⟩

end Go.Proofs.Ytomnhgcjdnhijaa
