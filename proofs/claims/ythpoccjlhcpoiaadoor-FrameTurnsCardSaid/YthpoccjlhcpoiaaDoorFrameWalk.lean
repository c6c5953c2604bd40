/-
  The walks through the package frame, and the document's: 'Put', 'Size'.
-/
import Derived.Test.YthpoccjlhcpoiaaDoorWireOnce
import Derived.Test.YthpoccjlhcpoiaaDoorWireGet
import Derived.Test.YthpoccjlhcpoiaaDoorCrcLaws
namespace Go.Proofs.YthpoccjlhcpoiaaDoor
open Go.RowKit

/-- the sum as a number -/
def sumN (l : List UInt8) : Nat := (sumF l).toNat
theorem sumN_eq (l : List UInt8) : sumF l = (sumN l : Int) := by unfold sumN; rw [sumF_bv]; rfl
theorem sumN_lt (l : List UInt8) : sumN l < 4294967296 := by
  unfold sumN
  rw [sumF_bv]
  exact (sumR l).isLt
/-- a frame -/
def frameB (p : List UInt8) : List UInt8 := numB p.length 2 ++ numB (sumN p) 4 ++ p
/-- what 'Put' tells -/
def putF (p : List UInt8) : List UInt8 × Int := if p.length = 0 then ([], 1) else if 512 < p.length then ([], 7) else (frameB p, 0)
theorem frameB_length (p : List UInt8) : (frameB p).length = 6 + p.length := by simp [frameB, numB_length]; omega

/-- bytes and a number, in memory of the call's own -/
def PutPost (w : World) (t : List UInt8 × Int) (r : Ending) (w' : World) : Prop :=
  ∃ a n c, r = .returned (.tuple #[.slice a n c, .int .i64 t.2]) ∧ t.1.length = n ∧ RB w' a t.1 ∧ (∀ ad, a = some ad → w.heap.size ≤ ad.block) ∧ w.grownBy w' none

theorem Tab.grown {w w' : World} (h : Tab w) (hg : w.grownBy w' none) : Tab w' := fun i h0 h1 => grown_cell hg (h i h0 h1)

theorem u64_id (z : Int) (h0 : 0 ≤ z) (h1 : z < 18446744073709551616) : IntKind.u64.wrap z = z := wrap_u64 z h0 h1

set_option maxRecDepth 100000 in
set_option maxHeartbeats 1600000 in
theorem frame_put (a : Option Addr) (n cap : Nat) (p : List UInt8) (w : World) (hn : p.length = n) (hr : RB w a p) (hT : Tab w) :
    Calls Tryd.prog 7 #[.slice a n cap] w (PutPost w (putF p)) := by
  have HN := Lib.hid hn; have HR := Lib.hid hr; have HT := Lib.hid hT
  clear hn hr hT
  unfold putF
  rw [HN.out]
  by_cases h0 : n = 0
  · subst h0
    rw [if_pos rfl]
    go_enter Tryd.func7, Tryd.ntmps7
    go_wp2_with fail
    go_ret2
    exact ⟨none, 0, 0, rfl, rfl, RB.nil _ _, fun _ h => (by cases h), World.grownBy.refl _ _⟩
  · rw [if_neg h0]
    have h0' : ((n : Int) == 0) = false := by simp; omega
    by_cases h5 : 512 < n
    · rw [if_pos h5]
      have h5' : (512 : Int) < (n : Int) := by omega
      go_enter Tryd.func7, Tryd.ntmps7
      go_wp2_with fail
      go_ret2
      exact ⟨none, 0, 0, rfl, rfl, RB.nil _ _, fun _ h => (by cases h), World.grownBy.refl _ _⟩
    · rw [if_neg h5]
      have h5' : (n : Int) ≤ 512 := by omega
      have hs := sumN_eq p
      have hsl := sumN_lt p
      obtain ⟨s, hss⟩ : ∃ s, sumN p = s := ⟨_, rfl⟩
      rw [hss] at hs hsl
      have HSS := Lib.hid hss; have HS := Lib.hid hs; have HSL := Lib.hid hsl
      have hwn : IntKind.u64.wrap (n : Int) = (n : Int) := wrap_u64 _ (by omega) (by omega)
      have hws : IntKind.u64.wrap (s : Int) = (s : Int) := wrap_u64 _ (by omega) (by omega)
      clear hss hs hsl
      go_enter Tryd.func7, Tryd.ntmps7
      go_wp2_with fail
      refine (wire_new (6 + (n : Int)) (6 + n) (by omega) w).mono ?_
      rintro r w1 ⟨rfl, hW, hg⟩
      have HW1 := Lib.hid hW; have HG1 := Lib.hid hg
      clear hW hg
      go_wp2_with fail
      refine (wire_num HW1.out n (by omega) 2 (Room.of (by omega))).mono ?_
      rintro r w2 ⟨rfl, v2, hW, hk⟩
      rw [show ((2 : Int)) = ((2 : Nat) : Int) from rfl, numW_ok (by decide) (by decide) (by omega) (by simp; omega), List.nil_append] at hW
      have HW2 := Lib.hid hW; have HG2 := Lib.hid (hk.none HG1.out (Nat.le_refl _) HW1.out)
      clear hW hk HW1 HG1
      go_wp2_with fail
      refine (sum_any a n cap p _ HN.out (by omega) (HT.out.grown HG2.out) (HR.out.old (grown_below HG2.out))).mono ?_
      rintro r w3 ⟨rfl, rfl⟩
      rw [HS.out]
      go_wp2_with fail
      refine (wire_num HW2.out s (by have := HSL.out; omega) 4 (Room.of (by omega))).mono ?_
      rintro r w3 ⟨rfl, v3, hW, hk⟩
      rw [show ((4 : Int)) = ((4 : Nat) : Int) from rfl, numW_ok (by decide) (by decide) (by have := HSL.out; omega) (by rw [numB_length]; omega)] at hW
      have HW3 := Lib.hid hW; have HG3 := Lib.hid (hk.none HG2.out (Nat.le_refl _) HW2.out)
      clear hW hk HW2 HG2
      go_wp2_with fail
      refine (wire_raw HW3.out a n cap p HN.out (HR.out.old (grown_below HG3.out)) (Room.of (by omega))).mono ?_
      rintro r w4 ⟨rfl, v4, hW, hk⟩
      rw [rawW_ok (by rw [List.length_append, numB_length, numB_length, HN.out]; omega)] at hW
      have HW4 := Lib.hid hW; have HG4 := Lib.hid (hk.none HG3.out (Nat.le_refl _) HW3.out)
      clear hW hk HW3 HG3
      go_wp2_with fail
      refine (wire_done HW4.out (Room.of (by omega))).mono ?_
      rintro r w5 ⟨a5, n5, c5, rfl, hn5, hrb, hnew, hg⟩
      rw [if_pos rfl] at hn5
      have hx : numB n 2 ++ numB s 4 ++ p = frameB p := by unfold frameB; rw [HN.out, HSS.out]
      rw [hx] at hn5
      have hrb := hrb rfl
      rw [hx] at hrb
      have HN5 := Lib.hid hn5; have HR5 := Lib.hid hrb; have HG5 := Lib.hid (grown_trans HG4.out hg)
      have HF5 := Lib.hid (show ∀ ad, a5 = some ad → w.heap.size ≤ ad.block from fun ad h => Nat.le_trans HG4.out.size (hnew ad h))
      clear hn5 hrb hnew hg hx
      go_wp2_with fail
      go_ret2
      exact ⟨a5, n5, c5, rfl, HN5.out.symm, HR5.out, HF5.out, HG5.out⟩

set_option maxHeartbeats 800000 in
theorem frame_size (n : Int) (w : World) :
    Calls Tryd.prog 9 #[.int .i64 n] w fun r w' => r = .returned (.int .i64 (if 1 ≤ n ∧ n ≤ 512 then 6 + n else 0)) ∧ w = w' := by
  by_cases h1 : n < 1
  · rw [if_neg (by omega)]
    go_enter Tryd.func9, Tryd.ntmps9
    go_wp2_with fail
    go_ret
    exact ⟨rfl, rfl⟩
  · by_cases h5 : 512 < n
    · rw [if_neg (by omega)]
      go_enter Tryd.func9, Tryd.ntmps9
      go_wp2_with fail
      go_ret
      exact ⟨rfl, rfl⟩
    · rw [if_pos (by omega)]
      go_enter Tryd.func9, Tryd.ntmps9
      go_wp2_with fail
      go_ret
      exact ⟨rfl, rfl⟩

set_option maxRecDepth 100000 in
set_option maxHeartbeats 1600000 in
theorem ref_put (a : Option Addr) (n cap : Nat) (p : List UInt8) (w : World) (hn : p.length = n) (hm : n ≤ 1000000) (hr : RB w a p) :
    Calls Tryd.prog 8 #[.slice a n cap] w (PutPost w (putF p)) := by
  have HN := Lib.hid hn; have HR := Lib.hid hr
  clear hn hr
  unfold putF
  rw [HN.out]
  by_cases h0 : n = 0
  · subst h0
    rw [if_pos rfl]
    go_enter Tryd.func8, Tryd.ntmps8
    go_wp2_with fail
    go_ret2
    exact ⟨none, 0, 0, rfl, rfl, RB.nil _ _, fun _ h => (by cases h), World.grownBy.refl _ _⟩
  · rw [if_neg h0]
    have h0' : ((n : Int) == 0) = false := by simp; omega
    by_cases h5 : 512 < n
    · rw [if_pos h5]
      have h5' : (512 : Int) < (n : Int) := by omega
      go_enter Tryd.func8, Tryd.ntmps8
      go_wp2_with fail
      go_ret2
      exact ⟨none, 0, 0, rfl, rfl, RB.nil _ _, fun _ h => (by cases h), World.grownBy.refl _ _⟩
    · rw [if_neg h5]
      have h5' : (n : Int) ≤ 512 := by omega
      have hs := sumN_eq p
      have hsl := sumN_lt p
      obtain ⟨s, hss⟩ : ∃ s, sumN p = s := ⟨_, rfl⟩
      rw [hss] at hs hsl
      have HSS := Lib.hid hss; have HS := Lib.hid hs; have HSL := Lib.hid hsl
      have hwn : IntKind.u64.wrap (n : Int) = (n : Int) := wrap_u64 _ (by omega) (by omega)
      have hws : IntKind.u64.wrap (s : Int) = (s : Int) := wrap_u64 _ (by omega) (by omega)
      have HC2 := Lib.hid (fun w => ref_num n 2 (by omega) (by decide) w)
      have HC4 := Lib.hid (fun w => ref_num s 4 (by omega) (by decide) w)
      clear hss hs hsl hm
      go_enter Tryd.func8, Tryd.ntmps8
      go_wp2_with fail
      refine (HC2.out w).mono ?_
      rintro r w1 ⟨a1, n1, c1, rfl, hn1, ho, hg⟩
      have HN1 := Lib.hid hn1; have HO1 := Lib.hid ho; have HG1 := Lib.hid hg
      clear hn1 ho hg
      go_wp2_with fail
      refine (rsum_any a n cap p _ HN.out (by omega) (HR.out.old (grown_below HG1.out))).mono ?_
      rintro r w2 ⟨rfl, rfl⟩
      rw [HS.out]
      go_wp2_with fail
      refine (HC4.out w1).mono ?_
      rintro r w2 ⟨a2, n2, c2, rfl, hn2, ho, hg⟩
      have HN2 := Lib.hid hn2; have HO2 := Lib.hid (RB.of_own ho); have HG2 := Lib.hid (grown_trans HG1.out hg)
      have HO1' := Lib.hid (HO1.out.kept hg (Classical.em _))
      clear hn2 ho hg HO1
      have HLT := Lib.hid HO1'.out.lt
      go_wp2_with (at_builtin; refine wpList_append_bytes2 (o := ⟨some 20, _, _, _, _, _⟩) rfl _ _ rfl w.heap.size _ (numB n 2) rfl HO1'.out a2 _ c2 (numB s 4) rfl HO2.out HN2.out (by have := HN2.out; rw [numB_length] at this ⊢; omega) (by have := HG2.out.size; omega) ?_)
      intro v3 w3 ho hg _
      obtain ⟨a3, n3, c3, rfl, hn3⟩ := ho.len
      have HO3 := Lib.hid ho; have HN3 := Lib.hid hn3
      have HG3 := Lib.hid (grown_row HG2.out (fun g h => (HLT.out g h).1) hg)
      have HLT3 := Lib.hid ho.lt
      clear ho hg hn3
      go_wp2_with (at_builtin; refine wpList_append_bytes2 (o := ⟨some 23, _, _, _, _, _⟩) rfl _ _ rfl w.heap.size _ (numB n 2 ++ numB s 4) rfl HO3.out a _ cap p rfl (HR.out.old (grown_below HG3.out)) HN.out (by rw [List.length_append, numB_length, numB_length]; omega) (by have := HG3.out.size; omega) ?_)
      intro v4 w4 ho hg _
      obtain ⟨a4, n4, c4, rfl, hn4⟩ := ho.len
      have HO4 := Lib.hid (RB.of_own ho); have HN4 := Lib.hid hn4; have HLT4 := Lib.hid ho.lt
      have HG4 := Lib.hid (grown_row HG3.out (fun g h => (HLT3.out g h).1) hg)
      clear ho hg hn4
      have hx : numB n 2 ++ (numB s 4 ++ p) = frameB p := by unfold frameB; rw [HN.out, HSS.out, List.append_assoc]
      rw [hx] at HO4 HN4
      clear hx
      go_wp2_with fail
      go_ret2
      refine ⟨a4, n4, c4, rfl, HN4.out, HO4.out, fun ad h => ?_, HG4.out⟩
      subst h
      exact (HLT4.out ad.block rfl).1

theorem sumN_a : sumN [97] = 3904355907 := by unfold sumN; rw [sumF_bv]; decide +kernel

set_option maxHeartbeats 800000 in
theorem frame_works (w : World) (hT : Tab w) :
    Calls Tryd.prog 10 #[] w fun r w' => r = .returned (.bool true) ∧ w.grownBy w' none := by
  have HT := Lib.hid hT; clear hT
  have hx : putF [97] = ([1, 0, 67, 190, 183, 232, 97], 0) := by unfold putF frameB; rw [sumN_a]; rfl
  have HX := Lib.hid hx; clear hx
  have kc := fun (w : World) (C : Array Value) (n c g : Nat) (hg : g = w.heap.size) => Joins.run_convert_bytes_const_at (P := Tryd.prog) w 22 5 C n c g hg Tryd.underlying22 Tryd.underlying5
  go_enter Tryd.func10, Tryd.ntmps10
  go_wp2_with fail
  have hga := World.grownBy_alloc w (.cells #[.int .u8 97] 5 (1, 1 + 1)) none
  refine (frame_put _ 1 1 [97] _ rfl (RB.const w #[.int .u8 97] 5 (1, 1 + 1) [97] w.heap.size rfl rfl) (HT.out.grown hga)).mono ?_
  rw [HX.out]
  rintro r w1 ⟨a1, n1, c1, rfl, hn1, hr, _, hg⟩
  have hn1' : n1 = 7 := hn1.symm
  subst hn1'
  have hs := string_bytes a1 7 c1 _ w1 hr hn1
  rw [show strB (([1, 0, 67, 190, 183, 232, 97] : List UInt8), (0 : Int)).1 = ⟨#[1, 0, 67, 190, 183, 232, 97]⟩ from rfl] at hs
  have HG1 := Lib.hid (grown_trans hga hg)
  clear hga hg hn1 hr
  go_wp2_with fail
  refine (frame_size 1 w1).mono ?_
  rw [if_pos (by decide)]
  rintro r w2 ⟨rfl, rfl⟩
  go_wp2_with fail
  go_ret
  exact ⟨rfl, HG1.out⟩

set_option maxHeartbeats 1600000 in
theorem framePuts_walk (a : Option Addr) (len cap : Nat) (l : List UInt8) (x : Int) (w : World) (hb : InB w a len cap l) (hx : -9223372036854775808 ≤ x ∧ x ≤ 9223372036854775807) (hT : Tab w) :
    Calls Tryd.prog 3 #[.slice a len cap, .int .i64 x] w fun r w' => r = .returned (.bool true) ∧ Below w.heap.size w w' := by
  obtain ⟨n, hn, hnk, _, hmin⟩ := min_any len 1000 (by decide)
  obtain ⟨hbl, hbr, hbc⟩ := hb.cut hn
  have h1 := hb.cap_le
  generalize l.take n = p at *
  have HBL := Lib.hid hbl; have HBR := Lib.hid hbr; have HT := Lib.hid hT
  have hn1000 : n ≤ 1000 := by omega
  have i0 : (0 : Int) ≤ (n : Int) := by omega
  have i1 : (n : Int) ≤ (len : Int) := by omega
  have i2 : (n : Int) ≤ (cap : Int) := by omega
  clear hbl hbr hb hnk hT
  have HSZ := Lib.hid (frame_size x)
  go_enter Tryd.func3, Tryd.ntmps3
  go_wp2_with fail
  refine (frame_put a n _ p w HBL.out HBR.out HT.out).mono ?_
  obtain ⟨⟨q, e⟩, hp⟩ : ∃ t, putF p = t := ⟨_, rfl⟩
  rw [hp]
  have HP := Lib.hid hp
  clear hp
  rintro r w1 ⟨a1, n1, c1, rfl, hn1, hr, _, hg⟩
  have HN1 := Lib.hid hn1; have HR1 := Lib.hid hr; have HG1 := Lib.hid hg
  clear hn1 hr hg
  simp only at HN1 HR1
  go_wp2_with fail
  refine (ref_put a n _ p w1 HBL.out (by omega) (HBR.out.old (grown_below HG1.out))).mono ?_
  rw [HP.out]
  rintro r w2 ⟨a2, n2, c2, rfl, hn2, hr, _, hg⟩
  have hs1 := string_bytes a1 n1 c1 q w2 (HR1.out.old (grown_below hg)) HN1.out
  have hs2 := string_bytes a2 n2 c2 q w2 hr hn2
  have HG2 := Lib.hid (grown_trans HG1.out hg)
  clear hn2 hr hg
  by_cases hin : 1 ≤ x ∧ x ≤ 512
  · obtain ⟨j1, j2⟩ := hin
    rw [if_pos ⟨j1, j2⟩] at HSZ
    have hcomm : (6 : Int) + x = x + 6 := by omega
    rw [hcomm] at HSZ
    go_wp2_with fail
    refine (HSZ.out _).mono ?_
    rintro r w3 ⟨rfl, rfl⟩
    go_wp2_with fail
    clear hs1 hs2
    refine (frame_works _ (HT.out.grown HG2.out)).mono ?_
    rintro r w4 ⟨rfl, hg⟩
    have HG4 := Lib.hid (grown_trans HG2.out hg)
    clear hg
    go_wp2_with fail
    go_ret
    exact ⟨rfl, grown_below HG4.out⟩
  · rw [if_neg hin] at HSZ
    by_cases j1 : x < 1
    · clear hin
      go_wp2_with fail
      refine (HSZ.out _).mono ?_
      rintro r w3 ⟨rfl, rfl⟩
      go_wp2_with fail
      clear hs1 hs2
      refine (frame_works _ (HT.out.grown HG2.out)).mono ?_
      rintro r w4 ⟨rfl, hg⟩
      have HG4 := Lib.hid (grown_trans HG2.out hg)
      clear hg
      go_wp2_with fail
      go_ret
      exact ⟨rfl, grown_below HG4.out⟩
    · have j2 : 512 < x := by omega
      clear hin
      go_wp2_with fail
      refine (HSZ.out _).mono ?_
      rintro r w3 ⟨rfl, rfl⟩
      go_wp2_with fail
      clear hs1 hs2
      refine (frame_works _ (HT.out.grown HG2.out)).mono ?_
      rintro r w4 ⟨rfl, hg⟩
      have HG4 := Lib.hid (grown_trans HG2.out hg)
      clear hg
      go_wp2_with fail
      go_ret
      exact ⟨rfl, grown_below HG4.out⟩

end Go.Proofs.YthpoccjlhcpoiaaDoor
