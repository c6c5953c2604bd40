/-
  The document's reader of records: what is left, what was wrong first.
-/
import Derived.Test.YtomnhgcjdnhijaaRdWr
import Derived.Test.YtomnhgcjdnhijaaWireGet
namespace Go.Proofs.Ytomnhgcjdnhijaa
open Go.RowKit
set_option maxRecDepth 100000

/-- the document's reader at g, made behind w0 -/
structure RR (w0 w : World) (g : Nat) (s : Int × List UInt8) : Prop where
  at' : ∃ a n c, Box w g 86 [.slice a n c, .int .i64 s.1] ∧ RS w (fun k => w0.heap.size ≤ k) a n c s.2
  low : w0.heap.size ≤ g
  gr : w0.grownBy w none
theorem RS.grownX {w w' : World} {X : Nat → Prop} {r : Option Addr} {n c : Nat} {l : List UInt8} (h : RS w X r n c l) {q : Nat} (hg : w.grownBy w' (some q)) (hX : X q) : RS w' X r n c l := h.kept (Kept.of_row hg hX)
theorem RR.grown {w0 w w' : World} {g : Nat} {s : Int × List UInt8} (R : RR w0 w g s) (hg : w.grownBy w' none) : RR w0 w' g s := by
  obtain ⟨a, n, c, hb, hr⟩ := R.at'
  exact ⟨⟨a, n, c, hb.grown hg, hr.grown hg⟩, R.low, grown_trans R.gr hg⟩
theorem RR.other {w0 w w' : World} {g : Nat} {s : Int × List UInt8} (R : RR w0 w g s) {q : Nat} (hg : w.grownBy w' (some q)) (hq : q ≠ g) (hlow : w0.heap.size ≤ q) : RR w0 w' g s := by
  obtain ⟨a, n, c, hb, hr⟩ := R.at'
  exact ⟨⟨a, n, c, hb.kept hg (by simpa using hq), hr.grownX hg hlow⟩, R.low, grown_new R.gr hlow hg⟩
theorem RR.set {w0 w : World} {g : Nat} {s : Int × List UInt8} (R : RR w0 w g s) {q : Nat} (hq : q ≠ g) (hlow : w0.heap.size ≤ q) (i : Nat) (v : Value) : RR w0 (w.setCell ⟨q, i, none⟩ v) g s := R.other (grown_setCell w q i v) hq hlow
theorem RR.row {w0 w w' : World} {g : Nat} {s : Int × List UInt8} (R : RR w0 w g s) {v : Value} (hg : w.grownBy w' v.ownBlock) (hv : ∀ q, v.ownBlock = some q → q ≠ g ∧ w0.heap.size ≤ q) : RR w0 w' g s := by
  cases e : v.ownBlock with
  | none => rw [e] at hg; exact R.grown hg
  | some q => rw [e] at hg; obtain ⟨h1, h2⟩ := hv q e; exact R.other hg h1 h2
theorem RR.lt {w0 w : World} {g : Nat} {s : Int × List UInt8} (R : RR w0 w g s) : g < w.heap.size := by
  obtain ⟨_, _, _, h, _⟩ := R.at'
  exact h.lt
theorem RR.new {w : World} {a : Option Addr} {n c : Nat} {l : List UInt8} (hl : l.length = n) (hc : n ≤ c) (hm : c ≤ maxLen) (hr : RB w a l) : RR w (w.alloc (.cells #[.slice a n c, .int .i64 0] 86)) w.heap.size (0, l) := by
  have hg := World.grownBy_alloc w (.cells #[.slice a n c, .int .i64 0] 86) none
  refine ⟨⟨a, n, c, Box.new w 86 [.slice a n c, .int .i64 0] _ rfl, hl, hc, hm, ?_⟩, Nat.le_refl _, hg⟩
  refine RX.kept (w := w) (RX.of_rb hr ?_) (Kept.of_grown hg)
  intro ad e hne h
  subst e
  cases l with
  | nil => exact hne rfl
  | cons x xs =>
    obtain ⟨b, o, e, hc⟩ := hr 0 (by simp)
    cases e
    have := World.block_lt_of_cell? w _ hc
    simp only at this h
    omega

/-- what 'Num' does -/
def numF (e : Int) (l : List UInt8) (n : Int) : Nat × Int × List UInt8 := if e ≠ 0 then (0, e, l) else ((getNum l n).1, (getNum l n).2.2, (getNum l n).2.1)

set_option maxHeartbeats 800000 in
theorem RR.num {w0 w : World} {g : Nat} {s : Int × List UInt8} (R : RR w0 w g s) (n : Int) :
    Calls Try.prog 48 #[.pointer (some ⟨g, 0, none⟩), .int .i64 n] w fun r w' => r = .returned (.int .u64 ((numF s.1 s.2 n).1 : Int)) ∧ RR w0 w' g (numF s.1 s.2 n).2 ∧ w.grownBy w' (some g) := by
  obtain ⟨e, l⟩ := s
  obtain ⟨a, m, c, hb, hr⟩ := R.at'
  have L := hb.look
  have HB := Lib.hid hb; have HR := Lib.hid R
  have HC := Lib.hid (ref_getnum a m c l n w hr)
  have SI := set_idx
  unfold numF
  clear hb hr R
  simp only at *
  by_cases he : e = 0
  · subst he
    rw [if_neg (by simp)]
    go_enter Try.func48, Try.ntmps48
    go_wp2_with fail
    refine HC.out.mono ?_
    rintro r w1 ⟨r1, n1, c1, rfl, hrs, hg⟩
    have HB1 := Lib.hid (HB.out.grown hg)
    have L1 := HB1.out.look
    have O1 := HB1.out.open
    have HRS := Lib.hid hrs; have HG := Lib.hid hg
    clear hrs hg L
    go_wp2_with fail
    go_ret
    have hgs := grown_same (grown_setCell w1 g 0 (.slice r1 n1 c1)) (grown_setCell _ g 1 (.int .i64 (getNum l n).2.2))
    have hlow := HR.out.low
    exact ⟨rfl, ⟨⟨r1, n1, c1, (HB1.out.set 0 _).set 1 _, HRS.out.grownX hgs hlow⟩, hlow, grown_new (grown_trans HR.out.gr HG.out) hlow hgs⟩, grown_trans HG.out hgs⟩
  · rw [if_pos he]
    have h1 : (e != 0) = true := by simpa using he
    have h2 : (e == 0) = false := by simpa using he
    go_enter Try.func48, Try.ntmps48
    go_wp2_with fail
    go_ret
    exact ⟨rfl, HR.out, World.grownBy.refl _ _⟩
theorem numF_lt (e : Int) (l : List UInt8) (n : Nat) : (numF e l n).1 < 2 ^ (8 * n) := by
  unfold numF
  split
  · exact Nat.pow_pos (by decide)
  · have := getNum_lt l (n : Int); simpa using this
/-- both readers say the same number, the same error; and as long as nothing is wrong they have the same left -/
theorem get_num {l : List UInt8} {n : Nat} (h1 : 1 ≤ n) (h8 : n ≤ 8) : getNum l n = ((numR 0 l n).1, if (numR 0 l n).2.1 = 0 then (numR 0 l n).2.2 else [], (numR 0 l n).2.1) := by
  unfold getNum
  rw [if_neg (by omega)]
  by_cases h : l.length < n
  · rw [if_pos (by omega), numR_short h1 h8 h]; rfl
  · rw [if_neg (by omega), numR_fit h1 h8 (by omega), Int.toNat_natCast]; rfl
theorem num_same {l : List UInt8} {n : Nat} (h1 : 1 ≤ n) (h8 : n ≤ 8) : numF 0 l n = ((numR 0 l n).1, (numR 0 l n).2.1, if (numR 0 l n).2.1 = 0 then (numR 0 l n).2.2 else []) := by
  unfold numF
  rw [if_neg (by simp), get_num h1 h8]

end Go.Proofs.Ytomnhgcjdnhijaa
