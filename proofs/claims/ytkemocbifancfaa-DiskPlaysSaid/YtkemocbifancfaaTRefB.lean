/-
  The document's tape: what comes, and what is cut off.
-/
import Derived.Test.YtkemocbifancfaaTRef
namespace Go.Proofs.Ytkemocbifancfaa
open Go.RowKit
set_option maxRecDepth 100000

/-- the document's tape with these bytes -/
def Near (w : World) (l0 : List UInt8) (a0 : Option Addr) (l : List UInt8) (a : Option Addr) : Prop := ∀ ad, a = some ad → l ≠ [] → (l0 ≠ [] ∧ ∃ ad0, a0 = some ad0 ∧ ad0.block = ad.block) ∨ w.heap.size ≤ ad.block
theorem Near.refl (w : World) (a : Option Addr) {l0 l : List UInt8} (h : l0 = [] → l = []) : Near w l0 a l a := fun ad e hne => .inl ⟨fun e => hne (h e), ad, e, rfl⟩
theorem Near.map (w : World) (a : Option Addr) (p : Nat) {l0 l : List UInt8} (h : l0 = [] → l = []) : Near w l0 a l (Option.map (fun x => x.add p) a) := fun ad e hne => by
  cases a with
  | none => cases e
  | some a => cases e; exact .inl ⟨fun e => hne (h e), a, rfl, by simp only [Addr.add]; split <;> rfl⟩
theorem Near.own {w w' : World} {B : Nat} {l0 : List UInt8} {a0 a : Option Addr} {n c : Nat} {l : List UInt8} (h : OwnB w' B (.slice a n c) l) (hB : w.heap.size ≤ B) : Near w l0 a0 l a := fun ad e _ => by
  subst e
  exact .inr (Nat.le_trans hB (h.lt ad.block rfl).1)
def DocPost (w : World) (l0 : List UInt8) (a0 : Option Addr) (F s : Nat) (l : List UInt8) (r : Ending) (w' : World) : Prop := ∃ a n c, r = .returned (.agg #[.slice a n c, .int .i64 (F : Int), .int .i64 (s : Int)]) ∧ SlB w' a n c l ∧ w.grownBy w' none ∧ Near w l0 a0 l a
theorem SlB.nil0 {w : World} {a : Option Addr} {n c : Nat} {l : List UInt8} (h : SlB w a n c l) : a = none → c = 0 := fun e => by
  rcases h.shape with ⟨_, h⟩ | ⟨b, o, h⟩
  · exact h
  · rw [e] at h; cases h
theorem SlB.of_own {w : World} {B : Nat} {a : Option Addr} {n c : Nat} {l : List UInt8} (h : OwnB w B (.slice a n c) l) : SlB w a n c l := by
  refine ⟨RB.of_own h, ?_, ?_, ?_, ?_⟩
  · rcases h.2 with ⟨hv, h0⟩ | ⟨g, cap, cur, hv, _⟩ <;> cases hv
    · exact h0
    · rfl
  · rcases h.2 with ⟨hv, h0⟩ | ⟨g, cap, cur, hv, _, _, hnc, _⟩ <;> cases hv
    · exact Nat.le_refl _
    · exact hnc
  · rcases h.2 with ⟨hv, h0⟩ | ⟨g, cap, cur, hv, _, _, _, hm, _⟩ <;> cases hv
    · exact Nat.zero_le _
    · exact hm
  · rcases h.2 with ⟨hv, h0⟩ | ⟨g, cap, cur, hv, _⟩ <;> cases hv
    · exact .inl ⟨rfl, rfl⟩
    · exact .inr ⟨_, _, rfl⟩
theorem InB.grown {w w' : World} {a : Option Addr} {n c : Nat} {l : List UInt8} (h : InB w a n c l) (hg : w.grownBy w' none) : InB w' a n c l := ⟨h.len_eq, h.cap_le, h.max, h.nil, h.reads.oldg hg⟩
theorem grow3 (w : World) (g : Nat) (a b c : Value) : w.grownBy (((w.setCell ⟨g, 0, none⟩ a).setCell ⟨g, 1, none⟩ b).setCell ⟨g, 2, none⟩ c) (some g) :=
  grown_same (grown_same (grown_setCell _ _ _ _) (grown_setCell _ _ _ _)) (grown_setCell _ _ _ _)
set_option maxHeartbeats 12800000 in
theorem ref_append (a : Option Addr) (n c F s : Nat) (l : List UInt8) (a' : Option Addr) (n' c' : Nat) (b : List UInt8) (w : World) (h : SlB w a n c l) (hb : InB w a' n' c' b) (hbig : n + n' ≤ 1099511627776) :
    Calls Try.prog 75 #[.agg #[.slice a n c, .int .i64 (F : Int), .int .i64 (s : Int)], .slice a' n' c'] w (DocPost w l a F s (l ++ b)) := by
  have hbx := (Box.new w 50 [.slice a n c, .int .i64 (F : Int), .int .i64 (s : Int)] w.heap.size rfl).alloc (.cells #[.slice none 0 0, .int .i64 0, .int .i64 0] 50)
  have hbz := Box.new (w.alloc (.cells #[.slice a n c, .int .i64 (F : Int), .int .i64 (s : Int)] 50)) 50 [.slice none 0 0, .int .i64 0, .int .i64 0] (w.heap.size + 1) (by simp)
  have hg := growA _ (.cells #[.slice none 0 0, .int .i64 0, .int .i64 0] 50) (World.grownBy_alloc w (.cells #[.slice a n c, .int .i64 (F : Int), .int .i64 (s : Int)] 50) none)
  have hsz : ((w.alloc (.cells #[.slice a n c, .int .i64 (F : Int), .int .i64 (s : Int)] 50)).alloc (.cells #[.slice none 0 0, .int .i64 0, .int .i64 0] 50)).heap.size = w.heap.size + 2 := by simp
  obtain ⟨w1, hw1⟩ : ∃ u, (w.alloc (.cells #[.slice a n c, .int .i64 (F : Int), .int .i64 (s : Int)] 50)).alloc (.cells #[.slice none 0 0, .int .i64 0, .int .i64 0] 50) = u := ⟨_, rfl⟩
  have hx := hbx.look
  rw [hw1] at hbx hbz hg hsz
  have HBX := Lib.hid hbx; have HBZ := Lib.hid hbz; have HG := Lib.hid hg; have HSZ := Lib.hid hsz
  have HW1 := Lib.hid (fun _ : True => hw1)
  have H1 := Lib.hid (h.grown hg); have H2 := Lib.hid (hb.grown hg)
  have hln := h.len
  have hlb := hb.len_eq
  have HLN := Lib.hid (fun _ : True => And.intro hln hlb)
  clear hbx hbz hg hsz h hb hw1 hln hlb
  go_enter Try.func75, Try.ntmps75
  go_wp2_with (first
    | (at_builtin
       rw [HW1.out trivial]
       refine wpList_append_bytes (o := ⟨some 9, _, _, _, _, _⟩) rfl _ _ rfl (w.heap.size + 2) (.slice none 0 0) [] rfl (OwnB.nil _ _) a n c l rfl H1.out.rb (HLN.out trivial).1 H1.out.nil0 (by simp; omega) (Nat.le_of_eq HSZ.out.symm) ?_
       intro v2 w2 ho2 hg2
       have HO2 := Lib.hid (show OwnB w2 (w.heap.size + 2) v2 l from ho2)
       have HG2 := Lib.hid (show w1.grownBy w2 none from hg2)
       have HR2 := Lib.hid (H2.out.reads.oldg HG2.out)
       clear ho2 hg2)
    | (at_builtin
       refine wpList_append_bytes (o := ⟨some 12, _, _, _, _, _⟩) rfl _ _ rfl (w.heap.size + 2) v2 l rfl HO2.out a' n' c' b rfl HR2.out (HLN.out trivial).2 H2.out.nil (by rw [(HLN.out trivial).1]; omega) (by have h1 := HSZ.out; have h2 := HG2.out.size; omega) ?_
       intro v3 w3 ho3 hg3
       obtain ⟨a3, n3, c3, rfl, hn3⟩ := ho3.len
       have hb3 := (HBX.out.grown HG2.out).kept hg3 (fun e => by have := (HO2.out.lt _ e).1; omega)
       have hz3 := (HBZ.out.grown HG2.out).kept hg3 (fun e => by have := (HO2.out.lt _ e).1; omega)
       have X1 := hb3.look
       have Z1 := hz3.look
       have Z2 := hz3.open
       have HO3 := Lib.hid ho3
       have HG3 := Lib.hid (grown_row (grown_trans HG.out HG2.out) (fun z h => by have := (HO2.out.lt z h).1; omega) hg3)
       clear ho3 hg3 hn3 hb3 hz3 hx))
  refine bodyPost_ret (v := .agg #[.slice a3 n3 c3, .int .i64 (F : Int), .int .i64 (s : Int)]) ?_ rfl ?_
  · simp only [results]
    go_simp
  · have ho := HO3.out.kept (grow3 w3 (w.heap.size + 1) (.slice a3 n3 c3) (.int .i64 (F : Int)) (.int .i64 (s : Int))) (.inr fun e => by have := (HO3.out.lt _ e).1; omega)
    exact ⟨a3, n3, c3, rfl, SlB.of_own ho, grown_new HG3.out (Nat.le_succ _) (grow3 _ _ _ _ _), Near.own ho (by omega)⟩
theorem SlB.upto {w : World} {a : Option Addr} {n c : Nat} {l : List UInt8} (h : SlB w a n c l) {q : Nat} (hq : q ≤ n) : SlB w a q c (l.take q) :=
  ⟨h.rb.take q, by rw [List.length_take, h.len]; omega, by have := h.cap; omega, h.max, h.shape⟩
def cutG (F : Nat) (l : List UInt8) (x : Int) : List UInt8 := if ((F + l.length : Nat) : Int) ≤ x then l else l.take ((max x (F : Int)).toNat - F)
theorem cutG_nil (F : Nat) (x : Int) : cutG F [] x = [] := by
  unfold cutG
  split
  · rfl
  · exact List.take_nil
theorem doc_store (w wk : World) (g : Nat) (a : Option Addr) (n c F s : Nat) (l : List UInt8) (h : SlB wk a n c l) (hg : w.grownBy wk none) (hlo : w.heap.size ≤ g) (hblk : ∀ ad, a = some ad → l ≠ [] → ad.block ≠ g) :
    SlB (((wk.setCell ⟨g, 0, none⟩ (.slice a n c)).setCell ⟨g, 1, none⟩ (.int .i64 (F : Int))).setCell ⟨g, 2, none⟩ (.int .i64 (s : Int))) a n c l ∧ w.grownBy (((wk.setCell ⟨g, 0, none⟩ (.slice a n c)).setCell ⟨g, 1, none⟩ (.int .i64 (F : Int))).setCell ⟨g, 2, none⟩ (.int .i64 (s : Int))) none := by
  have hk : Kept (fun k => k = g) wk (((wk.setCell ⟨g, 0, none⟩ (.slice a n c)).setCell ⟨g, 1, none⟩ (.int .i64 (F : Int))).setCell ⟨g, 2, none⟩ (.int .i64 (s : Int))) := Kept.of_row (grow3 wk g _ _ _) rfl
  exact ⟨⟨((RX.of_rb h.rb hblk).kept hk).rb, h.len, h.cap, h.max, h.shape⟩, grown_new hg hlo (grow3 wk g _ _ _)⟩
set_option maxHeartbeats 12800000 in
theorem ref_cut (a : Option Addr) (n c F s : Nat) (l : List UInt8) (x : Int) (w : World) (h : SlB w a n c l) (hbig : F + n ≤ 1099511627776) :
    Calls Try.prog 77 #[.agg #[.slice a n c, .int .i64 (F : Int), .int .i64 (s : Int)], .int .i64 x] w (DocPost w l a F s (cutG F l x)) := by
  have HE := Lib.hid (fun u => ref_end a n c F s u hbig)
  have hbx := (Box.new w 50 [.slice a n c, .int .i64 (F : Int), .int .i64 (s : Int)] w.heap.size rfl).alloc (.cells #[.slice none 0 0, .int .i64 0, .int .i64 0] 50)
  have hbz := Box.new (w.alloc (.cells #[.slice a n c, .int .i64 (F : Int), .int .i64 (s : Int)] 50)) 50 [.slice none 0 0, .int .i64 0, .int .i64 0] (w.heap.size + 1) (by simp)
  have hg := growA _ (.cells #[.slice none 0 0, .int .i64 0, .int .i64 0] 50) (World.grownBy_alloc w (.cells #[.slice a n c, .int .i64 (F : Int), .int .i64 (s : Int)] 50) none)
  have hx := hbx.look
  have HBX := Lib.hid hbx; have HBZ := Lib.hid hbz; have HG := Lib.hid hg
  have H1 := Lib.hid (h.grown hg)
  have hln := h.len
  have hnc := h.cap
  have hcm : c ≤ 9223372036854775807 := h.max
  have hblk : ∀ ad, a = some ad → l ≠ [] → ad.block ≠ w.heap.size + 1 := fun ad e hne e2 => by
    obtain ⟨b, o, e3, hc⟩ := h.rb 0 (List.length_pos_iff.2 hne)
    rw [e] at e3
    cases e3
    have := World.block_lt_of_cell? w _ hc
    simp only at e2 this
    omega
  have HBK := Lib.hid hblk
  obtain ⟨e, he⟩ : ∃ e, F + n = e := ⟨_, rfl⟩
  rw [he] at HE hbig
  clear hbx hbz hg h hblk
  go_enter Try.func77, Try.ntmps77
  go_wp2_with fail
  generalize (w.alloc (.cells #[.slice a n c, .int .i64 (F : Int), .int .i64 (s : Int)] 50)).alloc (.cells #[.slice none 0 0, .int .i64 0, .int .i64 0] 50) = w1 at *
  refine (HE.out _).mono ?_
  rintro r w2 ⟨rfl, hg2⟩
  have hx2 := (HBX.out.grown hg2).look
  have hz2 := (HBZ.out.grown hg2).look
  have ho2 := (HBZ.out.grown hg2).open
  have H2 := Lib.hid (H1.out.grown hg2)
  have HG2 := Lib.hid (grown_trans HG.out hg2)
  clear hx hg2
  by_cases hge : (e : Int) ≤ x
  · have HC := Lib.hid (fun _ : True => show cutG F l x = l from if_pos (by rw [hln, he]; exact hge))
    clear he hln
    go_wp2_with fail
    refine bodyPost_ret (v := .agg #[.slice a n c, .int .i64 (F : Int), .int .i64 (s : Int)]) ?_ rfl ?_
    · simp only [results]
      go_simp
    · have hd := doc_store w w2 (w.heap.size + 1) a n c F s l H2.out HG2.out (Nat.le_succ _) HBK.out
      exact ⟨a, n, c, rfl, by rw [HC.out trivial]; exact hd.1, hd.2, Near.refl _ _ (fun e => by rw [e]; exact cutG_nil _ _)⟩
  · have hqq : ∃ q : Nat, (max x (F : Int)).toNat - F = q ∧ q ≤ n := ⟨_, rfl, by omega⟩
    obtain ⟨q, hq, hqn⟩ := hqq
    have HC := Lib.hid (fun _ : True => show cutG F l x = l.take q by unfold cutG; rw [if_neg (by rw [hln, he]; exact hge), hq])
    have HT := Lib.hid (H2.out.upto hqn)
    have HBT := Lib.hid (show ∀ ad, a = some ad → l.take q ≠ [] → ad.block ≠ w.heap.size + 1 from fun ad e hne => HBK.out ad e (fun h => hne (by rw [h, List.take_nil])))
    have i1 : (q : Int) ≤ (c : Int) := by omega
    have i0 : (0 : Int) ≤ (q : Int) := by omega
    by_cases hxF : x < (F : Int)
    · obtain rfl : q = 0 := by omega
      have q1 : IntKind.i64.wrap 0 = 0 := rfl
      clear he hln hq
      go_wp2_with fail
      go_region_law (fail)
      all_goals (
        go_wp2_with fail
        refine bodyPost_ret (v := .agg #[.slice a 0 c, .int .i64 (F : Int), .int .i64 (s : Int)]) ?_ rfl ?_
        · simp only [results]
          go_simp
        · have hd := doc_store w w2 (w.heap.size + 1) a 0 c F s (l.take 0) HT.out HG2.out (Nat.le_succ _) HBT.out
          exact ⟨a, 0, c, rfl, by rw [HC.out trivial]; exact hd.1.grown (grown_drew1 _), grown_drew hd.2, Near.refl _ _ (fun e => by rw [e]; exact cutG_nil _ _)⟩)
    · have q0 : x - (F : Int) = (q : Int) := by omega
      have q1 : IntKind.i64.wrap (x - (F : Int)) = (q : Int) := by rw [q0, IntKind.wrap_i64]; omega
      have q2 : IntKind.i64.wrap (q : Int) = (q : Int) := by rw [IntKind.wrap_i64]; omega
      clear he hln hq
      go_wp2_with fail
      go_region_law (fail)
      all_goals (
        go_wp2_with fail
        refine bodyPost_ret (v := .agg #[.slice a q c, .int .i64 (F : Int), .int .i64 (s : Int)]) ?_ rfl ?_
        · simp only [results]
          go_simp
        · have hd := doc_store w w2 (w.heap.size + 1) a q c F s (l.take q) HT.out HG2.out (Nat.le_succ _) HBT.out
          exact ⟨a, q, c, rfl, by rw [HC.out trivial]; exact hd.1.grown (grown_drew1 _), grown_drew hd.2, Near.refl _ _ (fun e => by rw [e]; exact cutG_nil _ _)⟩)

end Go.Proofs.Ytkemocbifancfaa
