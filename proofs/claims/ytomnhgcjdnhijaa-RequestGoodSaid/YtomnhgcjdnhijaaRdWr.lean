/-
  A writer and a reader that the call itself made, seen from a base world w0: nothing that was there has changed.
-/
import Derived.Test.YtomnhgcjdnhijaaBuf
import Derived.Test.YtomnhgcjdnhijaaWireOnce
namespace Go.Proofs.Ytomnhgcjdnhijaa
open Go.RowKit
set_option maxRecDepth 100000

theorem ret_bool {a b : Bool} (h : a = b) : Ending.returned (.bool a) = .returned (.bool b) := by rw [h]
theorem ret_i64 {a b : Int} (h : a = b) : Ending.returned (.int .i64 a) = .returned (.int .i64 b) := by rw [h]
theorem growA {w : World} : ∀ u o, w.grownBy u none → w.grownBy (u.alloc o) none := fun _ _ h => grown_trans h (World.grownBy_alloc _ _ none)
theorem growA1 (w : World) : ∀ o, w.grownBy (w.alloc o) none := fun _ => World.grownBy_alloc _ _ none
theorem growA2 (w : World) : ∀ o o', w.grownBy ((w.alloc o).alloc o') none := fun _ _ => growA _ _ (growA _ _ (World.grownBy.refl _ _))
theorem growD {w : World} : ∀ u, w.grownBy u none → w.grownBy u.drew none := fun _ h => grown_drew h
theorem growT {a b c : World} (k : b.grownBy c none) (h : a.grownBy b none) : a.grownBy c none := grown_trans h k
theorem growDA {a b : World} {o : Obj} (h : a.grownBy b.drew none) : a.grownBy (b.alloc o).drew none := grown_drew (grown_trans (show a.grownBy b none from ⟨h.os, h.tape, h.output, h.size, h.block⟩) (World.grownBy_alloc b o none))
theorem str_of {w : World} {a : Option Addr} {n c : Nat} {l : List UInt8} (hr : RB w a l) (hn : l.length = n) : ∀ u, w.grownBy u none → (convert 26 9 (.slice a n c)).run Try.prog u = .ok (.string (strB l)) u :=
  fun u hg => string_bytes a n c l u (hr.old (grown_below hg)) hn
theorem strB_list : ∀ l : List UInt8, (strB l).toList = l := fun l => by rw [ByteArray.toList_eq]; simp [strB]
theorem grown_setX {w0 w : World} {g : Nat} (h : w0.grownBy w none) (hg : w0.heap.size ≤ g) (i : Nat) (v : Value) : w0.grownBy (w.setCell ⟨g, i, none⟩ v) none := grown_new h hg (grown_setCell w g i v)

/-- block q is none of the writer's -/
def Off (w : World) (g q : Nat) : Prop := q ≠ g ∧ ∀ v, w.cell? ⟨g, 1, none⟩ = some v → v.ownBlock ≠ some q
/-- what is none of the writer's is as it was -/
def Other (w : World) (g : Nat) (w' : World) : Prop := ∀ q T cs, Box w q T cs → Off w g q → Box w' q T cs ∧ Off w' g q

/-- a writer at g, made behind w0 -/
structure Wr (w0 w : World) (g : Nat) (s : Int × List UInt8) (most : Nat) : Prop where
  at' : ∃ v, WriterAt w g s.1 v s.2 most
  low : w0.heap.size ≤ g
  gr : w0.grownBy w none
  top : most ≤ 140737488355327

theorem Off.grown {w w' : World} {g q : Nat} {w0 : World} {s : Int × List UInt8} {most : Nat} (W : Wr w0 w g s most) (h : Off w g q) (hg : w.grownBy w' none) : Off w' g q := by
  obtain ⟨v, W⟩ := W.at'
  refine ⟨h.1, fun v' hv' => h.2 v' ?_⟩
  have := grown_cell hg (W.box.cell 1 rfl)
  rw [this] at hv'
  cases hv'
  exact W.box.cell 1 rfl
theorem Wr.grown {w0 w w' : World} {g : Nat} {s : Int × List UInt8} {most : Nat} (W : Wr w0 w g s most) (hg : w.grownBy w' none) : Wr w0 w' g s most := by
  obtain ⟨v, h⟩ := W.at'
  exact ⟨⟨v, h.box.grown hg, OwnB.kept h.row hg (by cases v.ownBlock <;> simp), h.fit⟩, W.low, grown_trans W.gr hg, W.top⟩
theorem Wr.off {w0 w : World} {g : Nat} {s : Int × List UInt8} {most : Nat} (W : Wr w0 w g s most) {q : Nat} (hq : w.heap.size ≤ q) : Off w g q := by
  obtain ⟨v, h⟩ := W.at'
  refine ⟨fun e => by have := h.box.lt; omega, fun v' hv' => ?_⟩
  rw [h.box.cell 1 rfl] at hv'
  cases hv'
  intro e
  have := (h.row.lt q e).2
  omega
theorem Wr.post {w0 w w' : World} {g : Nat} {e : Int} {v : Value} {l : List UInt8} {most : Nat} {s : Int × List UInt8} {r : Ending} (W : WriterAt w g e v l most) (low : w0.heap.size ≤ g) (gr : w0.grownBy w none) (top : most ≤ 140737488355327) (h : WPost w g v most s r w') :
    Wr w0 w' g s most ∧ Other w g w' := by
  obtain ⟨v', W', k⟩ := h
  refine ⟨⟨⟨v', W'⟩, low, ?_, top⟩, fun q T cs hb ho => ?_⟩
  · refine ⟨k.kept.os.trans gr.os, k.kept.tape.trans gr.tape, k.kept.output.trans gr.output, Nat.le_trans gr.size k.kept.size, fun i hi hne => ?_⟩
    rw [k.kept.block i (Nat.lt_of_lt_of_le hi gr.size) ?_, gr.block i hi hne]
    rintro (e | e)
    · omega
    · have := (W.row.lt i e).1; omega
  · have hv := ho.2 v (W.box.cell 1 rfl)
    refine ⟨?_, ho.1, fun v2 hv2 => ?_⟩
    · unfold Box
      rw [k.kept.block q hb.lt (by rintro (e | e); exact ho.1 e; exact hv e)]
      exact hb
    · rw [W'.box.cell 1 rfl] at hv2
      cases hv2
      intro e
      rcases k.row q e with h | h
      · exact hv h
      · have := hb.lt; omega

theorem Wr.new (x : Int) (m : Nat) (hm : m = x.toNat) (h : m ≤ 140737488355327) (w : World) :
    Calls Try.prog 33 #[.int .i64 x] w fun r w' => r = .returned (.pointer (some ⟨w.heap.size, 0, none⟩)) ∧ Wr w w' w.heap.size (0, []) m :=
  (wire_new x m hm w).mono fun _ _ ⟨he, hW, hg⟩ => ⟨he, ⟨⟨_, hW⟩, Nat.le_refl _, hg, h⟩⟩
theorem Wr.raw {w0 w : World} {g : Nat} {s : Int × List UInt8} {most : Nat} (W : Wr w0 w g s most) (a : Option Addr) (len cap : Nat) (b : List UInt8) (hn : b.length = len) (hr : RB w a b) :
    Calls Try.prog 34 #[.pointer (some ⟨g, 0, none⟩), .slice a len cap] w fun r w' => r = .returned (.tuple #[]) ∧ Wr w0 w' g (rawW most s b) most ∧ Other w g w' := by
  obtain ⟨v, h⟩ := W.at'
  exact (wire_raw h a len cap b hn hr (Room.of W.top)).mono fun _ _ ⟨he, hp⟩ => ⟨he, Wr.post h W.low W.gr W.top hp⟩
theorem Wr.num {w0 w : World} {g : Nat} {s : Int × List UInt8} {most : Nat} (W : Wr w0 w g s most) (x : Nat) (hx : x < 18446744073709551616) (n : Int) :
    Calls Try.prog 36 #[.pointer (some ⟨g, 0, none⟩), .int .u64 x, .int .i64 n] w fun r w' => r = .returned (.tuple #[]) ∧ Wr w0 w' g (numW most s x n) most ∧ Other w g w' := by
  obtain ⟨v, h⟩ := W.at'
  exact (wire_num h x hx n (Room.of W.top)).mono fun _ _ ⟨he, hp⟩ => ⟨he, Wr.post h W.low W.gr W.top hp⟩
theorem Wr.int {w0 w : World} {g : Nat} {s : Int × List UInt8} {most : Nat} (W : Wr w0 w g s most) (x : Int) (y : Nat) (hy : IntKind.u64.wrap x = (y : Int)) :
    Calls Try.prog 37 #[.pointer (some ⟨g, 0, none⟩), .int .i64 x] w fun r w' => r = .returned (.tuple #[]) ∧ Wr w0 w' g (numW most s y 8) most ∧ Other w g w' := by
  obtain ⟨v, h⟩ := W.at'
  exact (wire_int h x y hy (Room.of W.top)).mono fun _ _ ⟨he, hp⟩ => ⟨he, Wr.post h W.low W.gr W.top hp⟩
theorem Wr.bytes {w0 w : World} {g : Nat} {s : Int × List UInt8} {most : Nat} (W : Wr w0 w g s most) (a : Option Addr) (len cap : Nat) (b : List UInt8) (hn : b.length = len) (hr : RB w a b) :
    Calls Try.prog 52 #[.pointer (some ⟨g, 0, none⟩), .slice a len cap] w fun r w' => r = .returned (.tuple #[]) ∧ Wr w0 w' g (bytesW most s b) most ∧ Other w g w' := by
  obtain ⟨v, h⟩ := W.at'
  exact (wire_bytes h a len cap b hn hr (Room.of W.top)).mono fun _ _ ⟨he, hp⟩ => ⟨he, Wr.post h W.low W.gr W.top hp⟩
/-- all that was written, or nothing and what was wrong -/
def DoneW (w0 : World) (s : Int × List UInt8) (r : Ending) (w' : World) : Prop :=
  ∃ a n c, r = .returned (.tuple #[.slice a n c, .int .i64 s.1]) ∧ (if s.1 = 0 then s.2 else []).length = n ∧ RB w' a (if s.1 = 0 then s.2 else []) ∧ w0.grownBy w' none
theorem Wr.done {w0 w : World} {g : Nat} {s : Int × List UInt8} {most : Nat} (W : Wr w0 w g s most) :
    Calls Try.prog 39 #[.pointer (some ⟨g, 0, none⟩)] w (DoneW w0 s) := by
  obtain ⟨v, h⟩ := W.at'
  refine (wire_done h (Room.of W.top)).mono ?_
  rintro r w' ⟨a, n, c, rfl, hn, hr, _, hg⟩
  refine ⟨a, n, c, rfl, ?_, ?_, grown_trans W.gr hg⟩
  · by_cases e : s.1 = 0
    · rw [if_pos e] at hn ⊢; exact hn.symm
    · rw [if_neg e] at hn ⊢; exact hn.symm
  · by_cases e : s.1 = 0
    · rw [if_pos e]; exact hr e
    · rw [if_neg e]; exact RB.nil _ _

/-- what fits is written -/
theorem rawW_fit {most : Nat} {l b : List UInt8} (h : l.length + b.length ≤ most) : rawW most (0, l) b = (0, l ++ b) := by
  unfold rawW
  rw [if_neg (by simp), if_neg (by simp only; omega)]
theorem numW_fit {most : Nat} {l : List UInt8} {x n : Nat} (h1 : 1 ≤ n) (h8 : n ≤ 8) (hx : x < 2 ^ (8 * n)) (h : l.length + n ≤ most) : numW most (0, l) x n = (0, l ++ numB x n) := by
  unfold numW
  rw [if_neg, rawW_fit (by rw [Int.toNat_natCast, numB_length]; exact h), Int.toNat_natCast]
  rintro (h | h | h)
  · omega
  · omega
  · rw [Int.toNat_natCast] at h
    exact h.2 (Nat.div_eq_of_lt hx)
theorem bytesW_fit {most : Nat} {l b : List UInt8} (hb : b.length ≤ 65535) (h : l.length + (2 + b.length) ≤ most) : bytesW most (0, l) b = (0, l ++ (numB b.length 2 ++ b)) := by
  unfold bytesW
  rw [if_neg (by omega), rawW_fit (by rw [List.length_append, numB_length]; exact h)]

/-- a reader at g, made behind w0 -/
structure Rd (w0 w : World) (g : Nat) (X : Nat → Prop) (s : Int × List UInt8) : Prop where
  at' : ReaderAt w g X s.1 s.2
  low : w0.heap.size ≤ g
  gr : w0.grownBy w none
theorem Rd.lt {w0 w : World} {g : Nat} {X : Nat → Prop} {s : Int × List UInt8} (R : Rd w0 w g X s) : g < w.heap.size := by
  obtain ⟨_, _, _, h, _⟩ := R.at'.box
  exact h.lt
theorem Rd.grown {w0 w w' : World} {g : Nat} {X : Nat → Prop} {s : Int × List UInt8} (R : Rd w0 w g X s) (hg : w.grownBy w' none) : Rd w0 w' g X s := ⟨R.at'.grown hg, R.low, grown_trans R.gr hg⟩
/-- a block of X that is none of the reader's is written -/
theorem Rd.other {w0 w w' : World} {g : Nat} {X : Nat → Prop} {s : Int × List UInt8} (R : Rd w0 w g X s) {q : Nat} (hg : w.grownBy w' (some q)) (hq : q ≠ g) (hX : X q) (hlow : w0.heap.size ≤ q) : Rd w0 w' g X s := by
  obtain ⟨a, n, c, hb, hn, hc, hm, hr⟩ := R.at'.box
  exact ⟨⟨R.at'.self, a, n, c, hb.kept hg (by simpa using hq), hn, hc, hm, hr.kept (Kept.of_row hg hX)⟩, R.low, grown_new R.gr hlow hg⟩
/-- a row of X, none of the reader's, is appended to -/
theorem Rd.row {w0 w w' : World} {g : Nat} {X : Nat → Prop} {s : Int × List UInt8} (R : Rd w0 w g X s) {v : Value} (hg : w.grownBy w' v.ownBlock) (hv : ∀ q, v.ownBlock = some q → q ≠ g ∧ X q ∧ w0.heap.size ≤ q) : Rd w0 w' g X s := by
  cases e : v.ownBlock with
  | none => rw [e] at hg; exact R.grown hg
  | some q => rw [e] at hg; obtain ⟨h1, h2, h3⟩ := hv q e; exact R.other hg h1 h2 h3
theorem Rd.set {w0 w : World} {g : Nat} {X : Nat → Prop} {s : Int × List UInt8} (R : Rd w0 w g X s) {q : Nat} (hq : q ≠ g) (hX : X q) (hlow : w0.heap.size ≤ q) (i : Nat) (v : Value) : Rd w0 (w.setCell ⟨q, i, none⟩ v) g X s :=
  R.other (grown_setCell w q i v) hq hX hlow
theorem Rd.new (a : Option Addr) (len cap : Nat) (b : List UInt8) (w : World) (hn : b.length = len) (hr : RB w a b) (hm : len ≤ 140737488355327) :
    Calls Try.prog 43 #[.slice a len cap] w fun r w' => ∃ g, r = .returned (.pointer (some ⟨g, 0, none⟩)) ∧ Rd w w' g (OutX w.heap.size g) (0, b) :=
  (wire_read a len cap b w hn hr hm).mono fun _ _ ⟨g, he, hg, hR, hG⟩ => ⟨g, he, hR, hg, hG⟩
theorem Rd.num {w0 w : World} {g : Nat} {X : Nat → Prop} {s : Int × List UInt8} (R : Rd w0 w g X s) (n : Int) :
    Calls Try.prog 44 #[.pointer (some ⟨g, 0, none⟩), .int .i64 n] w fun r w' => r = .returned (.int .u64 ((numR s.1 s.2 n).1 : Int)) ∧ Rd w0 w' g X (numR s.1 s.2 n).2 ∧ w.grownBy w' (some g) :=
  (wire_rnum R.at' n).mono fun _ _ ⟨he, hR, hg⟩ => ⟨he, ⟨hR, R.low, grown_new R.gr R.low hg⟩, hg⟩
theorem Rd.int {w0 w : World} {g : Nat} {X : Nat → Prop} {s : Int × List UInt8} (R : Rd w0 w g X s) :
    Calls Try.prog 46 #[.pointer (some ⟨g, 0, none⟩)] w fun r w' => r = .returned (.int .i64 (wrap64 ((numR s.1 s.2 8).1 : Int))) ∧ Rd w0 w' g X (numR s.1 s.2 8).2 ∧ w.grownBy w' (some g) :=
  (wire_rint R.at').mono fun _ _ ⟨he, hR, hg⟩ => ⟨he, ⟨hR, R.low, grown_new R.gr R.low hg⟩, hg⟩
theorem Rd.bytes {w0 w : World} {g : Nat} {X : Nat → Prop} {s : Int × List UInt8} (R : Rd w0 w g X s) (most : Int) :
    Calls Try.prog 55 #[.pointer (some ⟨g, 0, none⟩), .int .i64 most] w fun r w' => ∃ a n c, r = .returned (.slice a n c) ∧ (bytesR s.1 s.2 most).1.length = n ∧ RX w' X a (bytesR s.1 s.2 most).1 ∧ Rd w0 w' g X (bytesR s.1 s.2 most).2 ∧ w.grownBy w' (some g) :=
  (wire_rbytes R.at' most).mono fun _ _ ⟨a, n, c, he, hn, hx, hR, hg⟩ => ⟨a, n, c, he, hn, hx, ⟨hR, R.low, grown_new R.gr R.low hg⟩, hg⟩
theorem Rd.err {w0 w : World} {g : Nat} {X : Nat → Prop} {s : Int × List UInt8} (R : Rd w0 w g X s) :
    Calls Try.prog 45 #[.pointer (some ⟨g, 0, none⟩)] w fun r w' => r = .returned (.int .i64 s.1) ∧ w = w' := wire_err R.at'
theorem Rd.end' {w0 w : World} {g : Nat} {X : Nat → Prop} {s : Int × List UInt8} (R : Rd w0 w g X s) :
    Calls Try.prog 47 #[.pointer (some ⟨g, 0, none⟩)] w fun r w' => r = .returned (.int .i64 (endR s.1 s.2)) ∧ w = w' := wire_end R.at'

/-- what a reader says that stands well -/
theorem numR_fit {l : List UInt8} {n : Nat} (h1 : 1 ≤ n) (h8 : n ≤ 8) (h : n ≤ l.length) : numR 0 l n = (valN (l.take n), 0, l.drop n) := by
  unfold numR takeR
  rw [if_neg (by omega), if_neg (by simp), if_neg (by rw [Int.toNat_natCast]; omega), Int.toNat_natCast]
theorem numR_short {l : List UInt8} {n : Nat} (h1 : 1 ≤ n) (h8 : n ≤ 8) (h : l.length < n) : numR 0 l n = (0, 6, l) := by
  unfold numR takeR
  rw [if_neg (by omega), if_neg (by simp), if_pos (by rw [Int.toNat_natCast]; omega)]
  rfl
theorem numR_ill {e : Int} (he : e ≠ 0) (l : List UInt8) {n : Nat} (h1 : 1 ≤ n) (h8 : n ≤ 8) : numR e l n = (0, e, l) := by
  unfold numR takeR
  rw [if_neg (by omega), if_pos he]
  rfl
theorem valN_take_lt (l : List UInt8) (k : Nat) : valN (l.take k) < 2 ^ (8 * k) :=
  Nat.lt_of_lt_of_le (valN_lt _) (Nat.pow_le_pow_right (by decide) (by rw [List.length_take]; omega))
theorem numR_less (e : Int) (l : List UInt8) (n : Nat) (h1 : 1 ≤ n) (h8 : n ≤ 8) : (numR e l n).1 < 2 ^ (8 * n) := by
  by_cases he : e = 0
  · subst he
    by_cases h : n ≤ l.length
    · rw [numR_fit h1 h8 h]; exact valN_take_lt _ _
    · rw [numR_short h1 h8 (by omega)]; exact Nat.pow_pos (by decide)
  · rw [numR_ill he l h1 h8]; exact Nat.pow_pos (by decide)

end Go.Proofs.Ytomnhgcjdnhijaa
