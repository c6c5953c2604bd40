/-
  The walks through the package wire: the writer.
-/
import Derived.Test.YtomnhgcjdnhijaaMemB
namespace Go.Proofs.Ytomnhgcjdnhijaa
open Go.RowKit

/-- what was there stays, but for block g and the row v; the row v' is the row v, or new -/
structure Wrote (w : World) (g : Nat) (v : Value) (w' : World) (v' : Value) : Prop where
  kept : Kept (fun k => k = g ∨ v.ownBlock = some k) w w'
  row : ∀ k, v'.ownBlock = some k → v.ownBlock = some k ∨ w.heap.size ≤ k
theorem Wrote.refl (w : World) (g : Nat) (v : Value) : Wrote w g v w v := ⟨Kept.refl _ _, fun _ h => .inl h⟩
theorem Wrote.trans {a b c : World} {g : Nat} {v v1 v2 : Value} (h : Wrote a g v b v1) (k : Wrote b g v1 c v2) : Wrote a g v c v2 := by
  refine ⟨⟨k.kept.os.trans h.kept.os, k.kept.tape.trans h.kept.tape, k.kept.output.trans h.kept.output, Nat.le_trans h.kept.size k.kept.size, fun i hi hx => ?_⟩, fun i hi => ?_⟩
  · rw [k.kept.block i (Nat.lt_of_lt_of_le hi h.kept.size) ?_, h.kept.block i hi hx]
    rintro (e | e)
    · exact hx (.inl e)
    · rcases h.row i e with e' | e'
      · exact hx (.inr e')
      · omega
  · rcases k.row i hi with e | e
    · exact h.row i e
    · exact .inr (Nat.le_trans h.kept.size e)
theorem Wrote.grown {a b c : World} {g : Nat} {v : Value} (h : a.grownBy b none) (k : Wrote b g v c v) : Wrote a g v c v :=
  ⟨(Kept.of_grown h).trans k.kept, fun _ e => .inl e⟩

/-- a writer: what was wrong first, the bytes, how many there may be -/
structure WriterAt (w : World) (g : Nat) (e : Int) (v : Value) (l : List UInt8) (most : Nat) : Prop where
  box : Box w g 104 [.int .i64 e, v, .int .i64 most]
  row : OwnB w (g + 1) v l
  fit : l.length ≤ most

theorem wire_new (x : Int) (m : Nat) (hm : m = x.toNat) (w : World) :
    Calls Try.prog 33 #[.int .i64 x] w fun e w' => e = .returned (.pointer (some ⟨w.heap.size, 0, none⟩)) ∧ WriterAt w' w.heap.size 0 (.slice none 0 0) [] m ∧ w.grownBy w' none := by
  have r1 := max_nat x m hm
  clear hm
  go_enter Try.func33, Try.ntmps33
  go_wp2_with fail
  go_ret
  exact ⟨rfl, ⟨Box.new w 104 [.int .i64 0, .slice none 0 0, .int .i64 m] w.heap.size rfl, OwnB.nil _ _, Nat.zero_le _⟩, World.grownBy_alloc _ _ none⟩

theorem wire_fine {w : World} {g : Nat} {e : Int} {rest : List Value} {T : TypeId} (hb : Box w g T (.int .i64 e :: rest)) :
    Calls Try.prog 63 #[.pointer (some ⟨g, 0, none⟩)] w fun r w' => r = .returned (.bool (e == 0)) ∧ w = w' := by
  have c0 := hb.cell 0 rfl
  clear hb
  go_enter Try.func63, Try.ntmps63
  go_wp2_with fail
  go_ret
  exact ⟨rfl, rfl⟩

theorem wire_wrong {w : World} {g : Nat} {e : Int} {rest : List Value} {T : TypeId} (hb : Box w g T (.int .i64 e :: rest)) (n : Int) :
    Calls Try.prog 64 #[.pointer (some ⟨g, 0, none⟩), .int .i64 n] w fun r w' => r = .returned (.tuple #[]) ∧ Box w' g T (.int .i64 (if e = 0 then n else e) :: rest) ∧ w.grownBy w' (some g) := by
  have c0 := hb.cell 0 rfl
  have f0 := hb.free 0
  by_cases h : e = 0
  · subst h
    have HB := Lib.hid hb; clear hb
    go_enter Try.func64, Try.ntmps64
    go_wp2_with fail
    go_end0
    exact ⟨rfl, HB.out.set 0 _, grown_setCell _ _ _ _⟩
  · have HB := Lib.hid hb; clear hb
    go_enter Try.func64, Try.ntmps64
    go_wp2_with fail
    go_end0
    exact ⟨rfl, HB.out, World.grownBy.refl _ _⟩

/-- there is room for n more bytes: in a writer of no great bound, or behind few bytes -/
structure Room (most : Nat) (l : List UInt8) (n : Nat) : Prop where
  top : most ≤ 9223372036854775807
  room : most ≤ 140737488355327 ∨ l.length + n ≤ 140737488355327
theorem Room.of {most : Nat} {l : List UInt8} {n : Nat} (h : most ≤ 140737488355327) : Room most l n := ⟨by omega, .inl h⟩
theorem Room.few {most : Nat} {l : List UInt8} {n m : Nat} (h : Room most l m) (hn : n ≤ m) : Room most l n := ⟨h.top, h.room.imp id (fun h => by omega)⟩

/-- what 'Raw' does -/
def rawW (most : Nat) (s : Int × List UInt8) (b : List UInt8) : Int × List UInt8 :=
  if s.1 ≠ 0 then s else if (most : Int) - s.2.length < b.length then (7, s.2) else (0, s.2 ++ b)

def WPost (w : World) (g : Nat) (v : Value) (most : Nat) (s : Int × List UInt8) (_ : Ending) (w' : World) : Prop :=
  ∃ v', WriterAt w' g s.1 v' s.2 most ∧ Wrote w g v w' v'

theorem wire_raw_nil (w : World) (b : Value) :
    Calls Try.prog 34 #[.pointer none, b] w fun e w' => e = .returned (.tuple #[]) ∧ w = w' := by
  go_enter Try.func34, Try.ntmps34
  go_wp2_with fail
  go_end0
  exact ⟨rfl, rfl⟩

set_option maxHeartbeats 1600000 in
theorem wire_raw {w : World} {g : Nat} {e : Int} {v : Value} {l : List UInt8} {most : Nat} (W : WriterAt w g e v l most) (a : Option Addr) (len cap : Nat) (b : List UInt8) (hn : b.length = len) (hr : RB w a b) (hm : Room most l len) :
    Calls Try.prog 34 #[.pointer (some ⟨g, 0, none⟩), .slice a len cap] w fun r w' => r = .returned (.tuple #[]) ∧ WPost w g v most (rawW most (e, l) b) r w' := by
  obtain ⟨va, vn, vc, rfl, hvn⟩ := W.row.len
  have c0 := W.box.cell 0 rfl
  have c1 := W.box.cell 1 rfl
  have c2 := W.box.cell 2 rfl
  have f1 := W.box.free 1
  have hfit := W.fit
  have hm1 := hm.top
  have HM := Lib.hid hm.room
  rw [hvn] at HM
  clear hm
  have HW := Lib.hid W; have HN := Lib.hid hn; have HR := Lib.hid hr
  have HVN := Lib.hid hvn
  have hwr : IntKind.i64.wrap ((most : Int) - (vn : Int)) = (most : Int) - (vn : Int) := wrap_small _ (by omega) (by omega)
  rw [hvn] at hfit
  clear W hn hr hvn
  by_cases h : e = 0
  · subst h
    by_cases hl : (most : Int) - (vn : Int) < (len : Int)
    · go_enter Try.func34, Try.ntmps34
      go_wp2_with fail
      refine (wire_fine HW.out.box).mono ?_
      rintro r w1 ⟨rfl, rfl⟩
      go_wp2_with fail
      go_quiet (fail)
      have HW1 := Lib.hid (HW.out.box.grown (grown_drewN w nq))
      have HGQ := Lib.hid (grown_drewN w nq)
      generalize w.drewN nq = w1 at *
      go_wp2_with fail
      refine (wire_wrong HW1.out 7).mono ?_
      rintro r w1 ⟨rfl, hb, hg⟩
      have HB := Lib.hid hb; have HG := Lib.hid hg
      clear hb hg
      go_wp2_with fail
      go_end0
      refine ⟨rfl, ?_⟩
      have hx : rawW most ((0 : Int), l) b = (7, l) := by
        unfold rawW
        rw [if_neg (by simp), if_pos (by rw [HVN.out, HN.out]; exact hl)]
      rw [hx]
      have hne : (Value.slice va vn vc).ownBlock ≠ some g := HW.out.row.ne (by omega)
      exact ⟨_, ⟨by simpa using HB.out, (HW.out.row.kept HGQ.out (by cases (Value.slice va vn vc).ownBlock <;> simp)).kept HG.out (.inr hne), HW.out.fit⟩, (Kept.of_grown HGQ.out).trans (Kept.of_row HG.out (.inl rfl)), fun _ h => .inl h⟩
    · go_enter Try.func34, Try.ntmps34
      go_wp2_with fail
      refine (wire_fine HW.out.box).mono ?_
      rintro r w1 ⟨rfl, rfl⟩
      go_wp2_with fail
      go_quiet (fail)
      have HW1 := Lib.hid (HW.out.box.grown (grown_drewN w nq))
      have HO1 := Lib.hid (show OwnB (w.drewN nq) (g + 1) (.slice va vn vc) l from HW.out.row)
      have HR1 := Lib.hid (show RB (w.drewN nq) a b from HR.out)
      have HGQ := Lib.hid (grown_drewN w nq)
      have hgl := HW1.out.lt
      generalize w.drewN nq = w1 at *
      have c1 := HW1.out.cell 1 rfl
      go_wp2_with (at_builtin; refine wpList_append_bytes2 (o := ⟨some 10, _, _, _, _, _⟩) rfl _ _ rfl (g + 1) _ l rfl HO1.out a _ cap b rfl HR1.out HN.out (by have := HM.out; rw [HVN.out]; omega) (by omega) ?_)
      intro v2 w2 ho2 hg2 hk2
      obtain ⟨a2, n2, c2, rfl, hn2⟩ := ho2.len
      have hne : (Value.slice va vn vc).ownBlock ≠ some g := HO1.out.ne (by omega)
      have hb2 := HW1.out.kept hg2 hne
      have d0 := hb2.cell 0 rfl
      have d1 := hb2.cell 1 rfl
      have d2 := hb2.free 1
      have HB2 := Lib.hid hb2; have HO2 := Lib.hid ho2; have HG2 := Lib.hid hg2; have HN2 := Lib.hid hn2
      have HK2 := Lib.hid hk2
      clear hb2 ho2 hg2 hn2 hk2
      go_wp2_with fail
      go_end0
      refine ⟨rfl, ?_⟩
      have hx : rawW most ((0 : Int), l) b = (0, l ++ b) := by
        unfold rawW
        rw [if_neg (by simp), if_neg (by rw [HVN.out, HN.out]; omega)]
      rw [hx]
      refine ⟨.slice a2 n2 c2, ⟨HB2.out.set 1 _, Go.RowKit.ownsRow_setCell_below HO2.out (by show g < g + 1; omega) _, by rw [List.length_append, HVN.out, HN.out]; omega⟩, ?_, ?_⟩
      · have k2 : Kept (fun k => k = g ∨ (Value.slice va vn vc).ownBlock = some k) w1 w2 := by
          cases e : (Value.slice va vn vc).ownBlock with
          | none => have h := HG2.out; rw [e] at h; exact Kept.of_grown h
          | some q => have h := HG2.out; rw [e] at h; exact Kept.of_row h (.inr rfl)
        exact ((Kept.of_grown HGQ.out).trans k2).trans (Kept.of_row (grown_setCell _ _ _ _) (.inl rfl))
      · intro k hk
        rcases HK2.out k hk with h | h
        · exact .inl h
        · exact .inr (Nat.le_trans HGQ.out.size h)
  · have h' : (e == 0) = false := by simpa using h
    go_enter Try.func34, Try.ntmps34
    go_wp2_with fail
    refine (wire_fine HW.out.box).mono ?_
    rintro r w1 ⟨rfl, rfl⟩
    go_wp2_with fail
    go_end0
    have hx : rawW most (e, l) b = (e, l) := by
      unfold rawW
      rw [if_pos (by simpa using h)]
    rw [hx]
    exact ⟨rfl, _, HW.out, Wrote.refl _ _ _⟩

end Go.Proofs.Ytomnhgcjdnhijaa
