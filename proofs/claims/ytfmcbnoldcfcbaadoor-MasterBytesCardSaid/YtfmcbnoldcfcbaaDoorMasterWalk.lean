/-
  The walks through the package master: 'Good', 'Encode'.
-/
import Derived.Test.YtfmcbnoldcfcbaaDoorMasterMem
import Derived.Test.YtfmcbnoldcfcbaaDoorWireOnce
import Derived.Test.YtfmcbnoldcfcbaaDoorWireGet
import Derived.Test.YtfmcbnoldcfcbaaDoorCrcLaws
namespace Go.Proofs.YtfmcbnoldcfcbaaDoor
open Go.RowKit

/-- a master -/
structure MasterV where
  gen : Nat
  area : UInt8
  redo : Int
  tab : Int
  size : Int
def MasterV.cells (m : MasterV) : Array Value := #[.int .u64 (m.gen : Int), .int .u8 (m.area.toNat : Int), .int .i64 m.redo, .int .i64 m.tab, .int .i64 m.size]
/-- a master in memory's bounds -/
structure MasterV.ok (m : MasterV) : Prop where
  gen : m.gen < 18446744073709551616
  r : -9223372036854775808 ≤ m.redo ∧ m.redo ≤ 9223372036854775807
  t : -9223372036854775808 ≤ m.tab ∧ m.tab ≤ 9223372036854775807
  s : -9223372036854775808 ≤ m.size ∧ m.size ≤ 9223372036854775807
def zeroM : MasterV := ⟨0, 0, 0, 0, 0⟩
/-- may a master be? -/
def GoodM (m : MasterV) : Prop := m.gen ≠ 0 ∧ m.area.toNat ≤ 1 ∧ 0 ≤ m.redo ∧ m.redo ≤ m.tab ∧ 0 ≤ m.size
instance (m : MasterV) : Decidable (GoodM m) := by unfold GoodM; infer_instance

set_option maxHeartbeats 1600000 in
theorem master_good (m : MasterV) (w : World) :
    Calls Tryd.prog 12 #[.agg #[.int .u64 (m.gen : Int), .int .u8 (m.area.toNat : Int), .int .i64 m.redo, .int .i64 m.tab, .int .i64 m.size]] w fun r w' => r = .returned (.bool (decide (GoodM m))) ∧ w.grownBy w' none := by
  have HGA := Lib.hid (World.grownBy_alloc w (.cells #[.int .u64 (m.gen : Int), .int .u8 (m.area.toNat : Int), .int .i64 m.redo, .int .i64 m.tab, .int .i64 m.size] 24) none)
  obtain ⟨b, hb⟩ : ∃ b, decide (GoodM m) = b := ⟨_, rfl⟩
  rw [hb]
  have HB := Lib.hid hb
  clear hb
  by_cases h1 : m.gen = 0
  · have h1' : ((m.gen : Int) != 0) = false := by simp [h1]
    obtain rfl : b = false := by rw [← HB.out]; simp [GoodM, h1]
    clear h1
    go_enter Tryd.func12, Tryd.ntmps12
    go_wp2_with fail
    go_ret
    exact ⟨rfl, HGA.out⟩
  have h1' : ((m.gen : Int) != 0) = true := by simp; omega
  by_cases h2 : m.area.toNat ≤ 1
  · have h2' : (m.area.toNat : Int) ≤ 1 := by omega
    by_cases h3 : 0 ≤ m.redo
    · by_cases h4 : m.redo ≤ m.tab
      · by_cases h5 : 0 ≤ m.size
        · obtain rfl : b = true := by rw [← HB.out]; exact decide_eq_true ⟨h1, h2, h3, h4, h5⟩
          clear h1 h2
          go_enter Tryd.func12, Tryd.ntmps12
          go_wp2_with fail
          go_ret
          exact ⟨rfl, HGA.out⟩
        · obtain rfl : b = false := by rw [← HB.out]; exact decide_eq_false (fun h => h5 h.2.2.2.2)
          clear h1 h2
          go_enter Tryd.func12, Tryd.ntmps12
          go_wp2_with fail
          go_ret
          exact ⟨rfl, HGA.out⟩
      · obtain rfl : b = false := by rw [← HB.out]; exact decide_eq_false (fun h => h4 h.2.2.2.1)
        clear h1 h2
        go_enter Tryd.func12, Tryd.ntmps12
        go_wp2_with fail
        go_ret
        exact ⟨rfl, HGA.out⟩
    · obtain rfl : b = false := by rw [← HB.out]; exact decide_eq_false (fun h => h3 h.2.2.1)
      clear h1 h2
      go_enter Tryd.func12, Tryd.ntmps12
      go_wp2_with fail
      go_ret
      exact ⟨rfl, HGA.out⟩
  · have h2' : (1 : Int) < (m.area.toNat : Int) := by omega
    obtain rfl : b = false := by rw [← HB.out]; exact decide_eq_false (fun h => h2 h.2.1)
    clear h1 h2
    go_enter Tryd.func12, Tryd.ntmps12
    go_wp2_with fail
    go_ret
    exact ⟨rfl, HGA.out⟩

/-- the sum as a number -/
def sumN (l : List UInt8) : Nat := (sumF l).toNat
theorem sumN_eq (l : List UInt8) : sumF l = (sumN l : Int) := by unfold sumN; rw [sumF_bv]; rfl
theorem sumN_lt (l : List UInt8) : sumN l < 4294967296 := by
  unfold sumN
  rw [sumF_bv]
  exact (sumR l).isLt
theorem Tab.grown {w w' : World} (h : Tab w) (hg : w.grownBy w' none) : Tab w' := fun i h0 h1 => grown_cell hg (h i h0 h1)

theorem Wrote.box {w w' : World} {g q : Nat} {T : TypeId} {cs : List Value} {e : Int} {v v' : Value} {l : List UInt8} {most : Nat} (k : Wrote w g v w' v') (W : WriterAt w g e v l most) (hb : Box w q T cs) (hq : q < g) : Box w' q T cs :=
  hb.keptX k.kept (by
    rintro (h | h)
    · omega
    · have := (W.row.lt q h).1; omega)

/-- what 'Done' tells, with the room that there is -/
def DoneCap (w : World) (e : Int) (l : List UInt8) (r : Ending) (w' : World) : Prop :=
  ∃ a n c, r = .returned (.tuple #[.slice a n c, .int .i64 e]) ∧ n = (if e = 0 then l.length else 0) ∧ (e = 0 → RB w' a l) ∧ (∀ ad, a = some ad → w.heap.size ≤ ad.block) ∧ w.grownBy w' none ∧ n ≤ c ∧ c ≤ maxLen
theorem wire_done_cap {w : World} {g : Nat} {e : Int} {v : Value} {l : List UInt8} {most : Nat} (W : WriterAt w g e v l most) (hm : Room most l 0) :
    Calls Tryd.prog 20 #[.pointer (some ⟨g, 0, none⟩)] w (DoneCap w e l) := by
  obtain ⟨va, vn, vc, rfl, hvn⟩ := W.row.len
  have c0 := W.box.cell 0 rfl
  have c1 := W.box.cell 1 rfl
  have hfit := W.fit
  have hm0 : l.length ≤ 140737488355327 := by
    rcases hm.room with h | h <;> omega
  clear hm
  have HW := Lib.hid W; have HVN := Lib.hid hvn
  rw [hvn] at hfit hm0
  clear W hvn
  by_cases h : e = 0
  · subst h
    go_enter Tryd.func20, Tryd.ntmps20
    go_wp2_with fail
    refine (wire_fine HW.out.box).mono ?_
    rintro r w1 ⟨rfl, rfl⟩
    have c1a := fun o => (HW.out.box.alloc o).cell 1 rfl
    go_wp2_with (at_builtin; refine wpList_append_bytes2 (o := ⟨some 23, _, _, _, _, _⟩) rfl _ _ rfl w.heap.size _ [] rfl (OwnB.made w #[] 0 (by simp [maxLen]) rfl) va _ vc l rfl ((RB.of_own HW.out.row).alloc _) HVN.out (by simp; omega) (by simp) ?_)
    intro v2 w2 ho2 hg2 hk2
    obtain ⟨a2, n2, c2, rfl, hn2⟩ := ho2.len
    have hcap : n2 ≤ c2 ∧ c2 ≤ maxLen := by
      rcases ho2.2 with ⟨hv, _⟩ | ⟨q, cp, cur, hv, _, _, hnc, hcm, _⟩
      · cases hv; exact ⟨Nat.le_refl _, by simp [maxLen]⟩
      · cases hv; exact ⟨hnc, hcm⟩
    have HCAP := Lib.hid hcap
    clear hcap
    have HO2 := Lib.hid ho2; have HG2 := Lib.hid hg2; have HK2 := Lib.hid hk2; have HN2 := Lib.hid hn2
    clear ho2 hg2 hk2 hn2
    go_wp2_with fail
    go_ret2
    have hrx : RB w2 a2 l := RB.of_own HO2.out
    refine ⟨a2, n2, c2, rfl, by rw [if_pos rfl, HN2.out], fun _ => hrx, fun ad h => ?_, ?_, HCAP.out.1, HCAP.out.2⟩
    · subst h
      rcases HO2.out.2 with ⟨hv, _⟩ | ⟨q, cap, cur, hv, hb, _⟩
      · cases hv
      · cases hv; exact hb
    · exact grown_new (World.grownBy_alloc w _ none) (Nat.le_refl _) HG2.out
  · have h' : (e == 0) = false := by simpa using h
    go_enter Tryd.func20, Tryd.ntmps20
    go_wp2_with fail
    refine (wire_fine HW.out.box).mono ?_
    rintro r w1 ⟨rfl, rfl⟩
    go_wp2_with fail
    go_quiet (fail)
    go_wp2_with fail
    go_ret2
    exact ⟨none, 0, 0, rfl, by rw [if_neg h], fun h0 => absurd h0 h, fun _ h1 => (by cases h1), grown_drewN _ _, Nat.le_refl _, by simp [maxLen]⟩

/-- what the sum is of -/
def bodyM (m : MasterV) : List UInt8 := numB m.gen 8 ++ [m.area] ++ numB m.redo.toNat 8 ++ numB m.tab.toNat 8 ++ numB m.size.toNat 8
def masterB (m : MasterV) : List UInt8 := bodyM m ++ numB (sumN (bodyM m)) 4 ++ numB m.gen 8
theorem bodyM_length (m : MasterV) : (bodyM m).length = 33 := by simp [bodyM, numB_length]
theorem masterB_length (m : MasterV) : (masterB m).length = 45 := by simp [masterB, bodyM_length, numB_length]
/-- what 'Encode' tells -/
def encM (m : MasterV) : List UInt8 × Int := if GoodM m then (masterB m, 0) else ([], 1)
def EncPost (w : World) (t : List UInt8 × Int) (r : Ending) (w' : World) : Prop :=
  ∃ a n c, r = .returned (.tuple #[.slice a n c, .int .i64 t.2]) ∧ t.1.length = n ∧ RB w' a t.1 ∧ (∀ ad, a = some ad → w.heap.size ≤ ad.block) ∧ w.grownBy w' none ∧ n ≤ c ∧ c ≤ maxLen

theorem u64_nat (x : Int) (h0 : 0 ≤ x) (h1 : x ≤ 9223372036854775807) : IntKind.u64.wrap x = ((x.toNat : Nat) : Int) := by
  rw [wrap_u64 _ h0 (by omega)]; omega

set_option maxRecDepth 100000 in
set_option maxHeartbeats 3200000 in
theorem master_encode (m : MasterV) (hm : m.ok) (w : World) (hT : Tab w) :
    Calls Tryd.prog 7 #[.agg #[.int .u64 (m.gen : Int), .int .u8 (m.area.toNat : Int), .int .i64 m.redo, .int .i64 m.tab, .int .i64 m.size]] w (EncPost w (encM m)) := by
  have hga := World.grownBy_alloc w (.cells #[.int .u64 (m.gen : Int), .int .u8 (m.area.toNat : Int), .int .i64 m.redo, .int .i64 m.tab, .int .i64 m.size] 24) none
  have HBX := Lib.hid (Box.new w 24 [.int .u64 (m.gen : Int), .int .u8 (m.area.toNat : Int), .int .i64 m.redo, .int .i64 m.tab, .int .i64 m.size] w.heap.size rfl)
  have HGA := Lib.hid hga; have HT := Lib.hid hT; have HM := Lib.hid hm
  clear hga hT hm
  unfold encM
  have HG := Lib.hid (master_good m)
  by_cases hgd : GoodM m
  · rw [if_pos hgd]
    rw [decide_eq_true hgd] at HG
    have HGD := Lib.hid hgd
    clear hgd
    go_enter Tryd.func7, Tryd.ntmps7
    go_wp2_with fail
    refine (HG.out _).mono ?_
    rintro r w1 ⟨rfl, hg⟩
    have HG1 := Lib.hid (grown_trans HGA.out hg); have HB1 := Lib.hid (HBX.out.grown hg)
    clear hg
    go_wp2_with fail
    refine (wire_new 33 33 rfl w1).mono ?_
    rintro r w2 ⟨rfl, hW, hg⟩
    have HW2 := Lib.hid hW; have HG2 := Lib.hid (grown_trans HG1.out hg); have HB2 := Lib.hid (HB1.out.grown hg); have HZ := Lib.hid (show w.heap.size < w1.heap.size from HB1.out.lt)
    have c0 := HB2.out.cell 0 rfl
    clear hW hg
    go_wp2_with fail
    refine (wire_num HW2.out m.gen HM.out.gen 8 (Room.of (by decide))).mono ?_
    rintro r w3 ⟨rfl, v3, hW, hk⟩
    rw [show ((8 : Int)) = ((8 : Nat) : Int) from rfl, numW_ok (by decide) (by decide) HM.out.gen (by simp), List.nil_append] at hW
    have HW3 := Lib.hid hW; have HG3 := Lib.hid (hk.none HG2.out (Nat.le_of_lt HZ.out) HW2.out); have HB3 := Lib.hid (hk.box HW2.out HB2.out HZ.out)
    clear hW hk HW2 HG2 HB2 c0
    have c0 := HB3.out.cell 1 rfl
    go_wp2_with fail
    have hga := World.grownBy_alloc w3 (.cells #[.int .u8 (m.area.toNat : Int)] 5) none
    have HW4 := Lib.hid (HW3.out.grown hga); have HG4 := Lib.hid (grown_trans HG3.out hga); have HB4 := Lib.hid (HB3.out.grown hga)
    have HRA := Lib.hid (RB.one w3 w3.heap.size rfl m.area 5 (0, 0))
    clear hga c0
    generalize w3.alloc (.cells #[.int .u8 (m.area.toNat : Int)] 5) = w4 at *
    refine (wire_raw HW4.out _ 1 1 [m.area] rfl HRA.out (Room.of (by decide))).mono ?_
    rintro r w5 ⟨rfl, v5, hW, hk⟩
    rw [rawW_ok (by simp [numB_length])] at hW
    have HW5 := Lib.hid hW; have HG5 := Lib.hid (hk.none HG4.out (Nat.le_of_lt HZ.out) HW4.out); have HB5 := Lib.hid (hk.box HW4.out HB4.out HZ.out)
    clear hW hk HW4 HG4 HB4 HRA
    have c0 := HB5.out.cell 2 rfl
    go_wp2_with fail
    refine (wire_int HW5.out m.redo m.redo.toNat (u64_nat _ (by have := HGD.out; unfold GoodM at this; omega) (by have := HM.out.r; omega)) (Room.of (by decide))).mono ?_
    rintro r w6 ⟨rfl, v6, hW, hk⟩
    rw [show ((8 : Int)) = ((8 : Nat) : Int) from rfl, numW_ok (by decide) (by decide) (by have := HM.out.r; omega) (by simp [numB_length])] at hW
    have HW6 := Lib.hid hW; have HG6 := Lib.hid (hk.none HG5.out (Nat.le_of_lt HZ.out) HW5.out); have HB6 := Lib.hid (hk.box HW5.out HB5.out HZ.out)
    clear hW hk HW5 HG5 HB5 c0
    have c0 := HB6.out.cell 3 rfl
    go_wp2_with fail
    refine (wire_int HW6.out m.tab m.tab.toNat (u64_nat _ (by have := HGD.out; unfold GoodM at this; omega) (by have := HM.out.t; omega)) (Room.of (by decide))).mono ?_
    rintro r w7 ⟨rfl, v7, hW, hk⟩
    rw [show ((8 : Int)) = ((8 : Nat) : Int) from rfl, numW_ok (by decide) (by decide) (by have := HM.out.t; omega) (by simp [numB_length])] at hW
    have HW7 := Lib.hid hW; have HG7 := Lib.hid (hk.none HG6.out (Nat.le_of_lt HZ.out) HW6.out); have HB7 := Lib.hid (hk.box HW6.out HB6.out HZ.out)
    clear hW hk HW6 HG6 HB6 c0
    have c0 := HB7.out.cell 4 rfl
    go_wp2_with fail
    refine (wire_int HW7.out m.size m.size.toNat (u64_nat _ (by have := HGD.out; unfold GoodM at this; omega) (by have := HM.out.s; omega)) (Room.of (by decide))).mono ?_
    rintro r w8 ⟨rfl, v8, hW, hk⟩
    rw [show ((8 : Int)) = ((8 : Nat) : Int) from rfl, numW_ok (by decide) (by decide) (by have := HM.out.s; omega) (by simp [numB_length])] at hW
    have HW8 := Lib.hid hW; have HG8 := Lib.hid (hk.none HG7.out (Nat.le_of_lt HZ.out) HW7.out); have HB8 := Lib.hid (hk.box HW7.out HB7.out HZ.out)
    clear hW hk HW7 HG7 HB7 c0
    go_wp2_with fail
    refine (wire_done HW8.out (Room.of (by decide))).mono ?_
    rintro r w9 ⟨a9, n9, c9, rfl, hn9, hrb, _, hg⟩
    rw [if_pos rfl] at hn9
    have hbd : numB m.gen 8 ++ [m.area] ++ numB m.redo.toNat 8 ++ numB m.tab.toNat 8 ++ numB m.size.toNat 8 = bodyM m := rfl
    have hrb := hrb rfl
    rw [hbd] at hn9 hrb
    rw [bodyM_length] at hn9
    subst hn9
    have HR9 := Lib.hid hrb; have HG9 := Lib.hid (grown_trans HG8.out hg); have HB9 := Lib.hid (HB8.out.grown hg)
    clear hbd hrb hg HW8 HG8 HB8
    go_wp2_with fail
    refine (wire_new 45 45 rfl w9).mono ?_
    rintro r w10 ⟨rfl, hW, hg⟩
    have HW10 := Lib.hid hW; have HG10 := Lib.hid (grown_trans HG9.out hg); have HB10 := Lib.hid (HB9.out.grown hg); have HZ2 := Lib.hid (show w.heap.size < w9.heap.size from HB9.out.lt)
    have HR10 := Lib.hid (HR9.out.old (grown_below hg))
    have HRG := Lib.hid (show ∀ w', w9.grownBy w' none → RB w' a9 (bodyM m) from fun w' h => HR9.out.old (grown_below h))
    have HG910 := Lib.hid hg
    clear hW hg HG9 HB9 HZ
    go_wp2_with fail
    refine (wire_raw HW10.out a9 33 c9 (bodyM m) (bodyM_length m) HR10.out (Room.of (by decide))).mono ?_
    rintro r w11 ⟨rfl, v11, hW, hk⟩
    rw [rawW_ok (by simp [bodyM_length]), List.nil_append] at hW
    have HW11 := Lib.hid hW; have HG11 := Lib.hid (hk.none HG10.out (Nat.le_of_lt HZ2.out) HW10.out); have HB11 := Lib.hid (hk.box HW10.out HB10.out HZ2.out)
    have HR11 := Lib.hid (HRG.out w11 (hk.none HG910.out (Nat.le_refl _) HW10.out))
    clear hW hk HW10 HG10 HB10 HR10
    go_wp2_with fail
    refine (sum_any a9 33 c9 (bodyM m) _ (bodyM_length m) (by decide) (HT.out.grown HG11.out) HR11.out).mono ?_
    rintro r w12 ⟨rfl, rfl⟩
    have hs := sumN_eq (bodyM m)
    have hsl := sumN_lt (bodyM m)
    obtain ⟨s, hss⟩ : ∃ s, sumN (bodyM m) = s := ⟨_, rfl⟩
    rw [hss] at hs hsl
    have HSS := Lib.hid hss; have HSL := Lib.hid hsl
    have hws : IntKind.u64.wrap (s : Int) = (s : Int) := wrap_u64 _ (by omega) (by omega)
    rw [hs]
    clear hss hs hsl
    go_wp2_with fail
    refine (wire_num HW11.out s (by have := HSL.out; omega) 4 (Room.of (by decide))).mono ?_
    rintro r w12 ⟨rfl, v12, hW, hk⟩
    rw [show ((4 : Int)) = ((4 : Nat) : Int) from rfl, numW_ok (by decide) (by decide) (by have := HSL.out; omega) (by rw [bodyM_length]; omega)] at hW
    have HW12 := Lib.hid hW; have HG12 := Lib.hid (hk.none HG11.out (Nat.le_of_lt HZ2.out) HW11.out); have HB12 := Lib.hid (hk.box HW11.out HB11.out HZ2.out)
    clear hW hk HW11 HG11 HB11 HR11 hws
    have c0 := HB12.out.cell 0 rfl
    go_wp2_with fail
    refine (wire_num HW12.out m.gen HM.out.gen 8 (Room.of (by decide))).mono ?_
    rintro r w13 ⟨rfl, v13, hW, hk⟩
    rw [show ((8 : Int)) = ((8 : Nat) : Int) from rfl, numW_ok (by decide) (by decide) HM.out.gen (by rw [List.length_append, bodyM_length, numB_length]; omega)] at hW
    have HW13 := Lib.hid hW; have HG13 := Lib.hid (hk.none HG12.out (Nat.le_of_lt HZ2.out) HW12.out)
    clear hW hk HW12 HG12 HB12 c0
    go_wp2_with fail
    refine (wire_done_cap HW13.out (Room.of (by decide))).mono ?_
    rintro r w14 ⟨a14, n14, c14, rfl, hn14, hrb, hnew, hg, hcp⟩
    have HCP := Lib.hid hcp
    clear hcp
    rw [if_pos rfl] at hn14
    have hbd : bodyM m ++ numB s 4 ++ numB m.gen 8 = masterB m := by unfold masterB; rw [HSS.out]
    have hrb := hrb rfl
    rw [hbd] at hn14 hrb
    have HN14 := Lib.hid hn14; have HR14 := Lib.hid hrb; have HG14 := Lib.hid (grown_trans HG13.out hg)
    have HF14 := Lib.hid (show ∀ ad, a14 = some ad → w.heap.size ≤ ad.block from fun ad h => Nat.le_trans HG13.out.size (hnew ad h))
    clear hbd hrb hg hn14 hnew
    go_wp2_with fail
    go_ret2
    exact ⟨a14, n14, c14, rfl, HN14.out.symm, HR14.out, HF14.out, HG14.out, HCP.out.1, HCP.out.2⟩
  · rw [if_neg hgd]
    rw [decide_eq_false hgd] at HG
    clear hgd
    go_enter Tryd.func7, Tryd.ntmps7
    go_wp2_with fail
    refine (HG.out _).mono ?_
    rintro r w1 ⟨rfl, hg⟩
    have HG1 := Lib.hid (grown_trans HGA.out hg)
    clear hg
    go_wp2_with fail
    go_ret2
    exact ⟨none, 0, 0, rfl, rfl, RB.nil _ _, fun _ h => (by cases h), HG1.out, Nat.le_refl _, by simp [maxLen]⟩

end Go.Proofs.YtfmcbnoldcfcbaaDoor
