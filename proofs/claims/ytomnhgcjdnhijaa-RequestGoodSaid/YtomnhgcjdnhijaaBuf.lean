/-
  A row of bytes that the call builds: appended to again and again.
-/
import Derived.Test.YtomnhgcjdnhijaaWireRef
import Derived.Test.YtomnhgcjdnhijaaLook
namespace Go.Proofs.Ytomnhgcjdnhijaa
open Go.RowKit

/-- since w0 nothing that was there has changed, and v is a row of the call's own with the bytes l -/
def Buf (w0 w : World) (v : Value) (l : List UInt8) : Prop := OwnB w w0.heap.size v l ∧ w0.grownBy w none
theorem Buf.mk' {w0 w w' : World} {v : Value} {l : List UInt8} (hg : w0.grownBy w none) (ho : OwnB w' w.heap.size v l) (hg' : w.grownBy w' none) : Buf w0 w' v l :=
  ⟨Joins.ownsRow_le ho hg.size, grown_trans hg hg'⟩
theorem OwnB.grown {w w' : World} {B : Nat} {v : Value} {l : List UInt8} (h : OwnB w B v l) (hg : w.grownBy w' none) : OwnB w' B v l := h.kept hg (by cases v.ownBlock <;> simp)
theorem Buf.grown {w0 w w' : World} {v : Value} {l : List UInt8} (h : Buf w0 w v l) (hg : w.grownBy w' none) : Buf w0 w' v l := ⟨h.1.grown hg, grown_trans h.2 hg⟩
theorem Buf.rb {w0 w : World} {a : Option Addr} {n c : Nat} {l : List UInt8} (h : Buf w0 w (.slice a n c) l) : RB w a l := RB.of_own h.1
theorem Buf.len {w0 w : World} {a : Option Addr} {n c : Nat} {l : List UInt8} (h : Buf w0 w (.slice a n c) l) : l.length = n := by
  obtain ⟨_, _, _, e, h⟩ := h.1.len
  cases e
  exact h
theorem Buf.nil {w0 w : World} (hg : w0.grownBy w none) : Buf w0 w (.slice none 0 0) [] := ⟨OwnB.nil _ _, hg⟩
theorem Buf.cap {w0 w : World} {a : Option Addr} {n c : Nat} {l : List UInt8} (h : Buf w0 w (.slice a n c) l) : n ≤ c ∧ c ≤ maxLen := by
  rcases h.1.2 with ⟨hv, _⟩ | ⟨q, cp, cur, hv, _, _, hnc, hcm, _⟩
  · cases hv; exact ⟨Nat.le_refl _, by simp [maxLen]⟩
  · obtain ⟨_, h1, h2⟩ := Value.slice.inj hv; subst h2; exact ⟨by omega, hcm⟩
theorem Buf.post {w0 w : World} {a : Option Addr} {n c : Nat} {l : List UInt8} (h : Buf w0 w (.slice a n c) l) : OwnPost w0 l (.returned (.slice a n c)) w := ⟨a, n, c, rfl, h.len, h.1, h.2⟩
/-- the call's own world lies below -/
theorem OwnPost.base {w w0 : World} {l : List UInt8} {e : Ending} {w' : World} (hg : w.grownBy w0 none) (h : OwnPost w0 l e w') : OwnPost w l e w' := by
  obtain ⟨a, n, c, he, hn, ho, hg'⟩ := h
  exact ⟨a, n, c, he, hn, Joins.ownsRow_le ho hg.size, grown_trans hg hg'⟩

theorem wpList_append_buf {ops : Array Oper} {rest : List Oper} {o : Oper} {a : Act} {w w0 : World} {Q : Exit → Act → World → Prop} (hgd : o.guard = none) (s x : Operand)
    (ho : o.op = .call { callee := .builtin .append, args := #[s, x], argTypes := #[26, 26] })
    {v : Value} {l : List UInt8} (hb : Buf w0 w v l) (hs : a.eval s = v)
    {ao : Option Addr} {m c : Nat} {src : List UInt8} (hr : RB w ao src) (hx : a.eval x = .slice ao m c) (hm : src.length = m)
    (hbytes : l.length + m ≤ 140737488355328)
    (h : ∀ a' n' c' w', Buf w0 w' (.slice a' n' c') (l ++ src) → wpList Try.prog ops Q rest (a.put o.dst (.slice a' n' c')) w') :
    wpList Try.prog ops Q (o :: rest) a w := by
  refine wpList_append_bytes2 hgd s x ho w0.heap.size v l hs hb.1 ao m c src hx hr hm hbytes hb.2.size ?_
  intro v' w' ho' hg' _
  obtain ⟨a', n', c', rfl, hn⟩ := ho'.len
  exact h a' n' c' w' ⟨ho', grown_row hb.2 (fun g hg => (hb.1.lt g hg).1) hg'⟩
/-- numbers of a known width, as the walk spells the width -/
theorem ref_num_8 (x : Nat) (hx : x < 18446744073709551616) (w : World) : Calls Try.prog 40 #[.int .u64 x, .int .i64 8] w (OwnPost w (numB x 8)) := ref_num x 8 hx (by decide) w
theorem ref_num_4 (x : Nat) (hx : x < 18446744073709551616) (w : World) : Calls Try.prog 40 #[.int .u64 x, .int .i64 4] w (OwnPost w (numB x 4)) := ref_num x 4 hx (by decide) w
theorem ref_num_2 (x : Nat) (hx : x < 18446744073709551616) (w : World) : Calls Try.prog 40 #[.int .u64 x, .int .i64 2] w (OwnPost w (numB x 2)) := ref_num x 2 hx (by decide) w

end Go.Proofs.Ytomnhgcjdnhijaa
