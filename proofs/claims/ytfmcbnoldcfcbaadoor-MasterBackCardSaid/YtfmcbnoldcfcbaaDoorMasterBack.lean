/-
  MasterBack.
-/
import Derived.Test.YtfmcbnoldcfcbaaDoorMasterArgs
namespace Go.Proofs.YtfmcbnoldcfcbaaDoor
open Go.RowKit

set_option maxRecDepth 100000 in
set_option maxHeartbeats 3200000 in
theorem masterBack_walk (m o : MasterV) (am : Option Addr) (len cap : Nat) (l0 : List UInt8) (w : World) (hm : m.ok) (ho : o.ok) (hb : InB w am len cap l0) (hT : Tab w) :
    Calls Tryd.prog 5 #[.agg #[.int .u64 (m.gen : Int), .int .u8 (m.area.toNat : Int), .int .i64 m.redo, .int .i64 m.tab, .int .i64 m.size], .slice am len cap, .agg #[.int .u64 (o.gen : Int), .int .u8 (o.area.toNat : Int), .int .i64 o.redo, .int .i64 o.tab, .int .i64 o.size]] w fun r w' => r = .returned (.bool true) ∧ Below w.heap.size w w' := by
  obtain ⟨n, hn, hnk, _, hmin⟩ := min_any len 50 (by decide)
  obtain ⟨hbl, hbr, hbc⟩ := hb.cut hn
  have h1 := hb.cap_le
  generalize l0.take n = more at *
  have HBL := Lib.hid hbl; have HBR := Lib.hid hbr
  have i0 : (0 : Int) ≤ (n : Int) := by omega
  have i1 : (n : Int) ≤ (len : Int) := by omega
  have i2 : (n : Int) ≤ (cap : Int) := by omega
  have hn50 : n ≤ 50 := by omega
  have HT := Lib.hid hT
  have HEm := Lib.hid (fun w' (h : Tab w') => master_encode m hm w' h)
  have HEo := Lib.hid (fun w' (h : Tab w') => master_encode o ho w' h)
  have HO := Lib.hid ho; have HM := Lib.hid hm
  have hga := World.grownBy_alloc w (.cells #[.int .u64 (m.gen : Int), .int .u8 (m.area.toNat : Int), .int .i64 m.redo, .int .i64 m.tab, .int .i64 m.size] 24) none
  have hgb := World.grownBy_alloc (w.alloc (.cells #[.int .u64 (m.gen : Int), .int .u8 (m.area.toNat : Int), .int .i64 m.redo, .int .i64 m.tab, .int .i64 m.size] 24)) (.cells #[.int .u64 (o.gen : Int), .int .u8 (o.area.toNat : Int), .int .i64 o.redo, .int .i64 o.tab, .int .i64 o.size] 24) none
  have HBM := Lib.hid ((Box.new w 24 [.int .u64 (m.gen : Int), .int .u8 (m.area.toNat : Int), .int .i64 m.redo, .int .i64 m.tab, .int .i64 m.size] w.heap.size rfl).alloc (.cells #[.int .u64 (o.gen : Int), .int .u8 (o.area.toNat : Int), .int .i64 o.redo, .int .i64 o.tab, .int .i64 o.size] 24))
  have HBO := Lib.hid (Box.new (w.alloc (.cells #[.int .u64 (m.gen : Int), .int .u8 (m.area.toNat : Int), .int .i64 m.redo, .int .i64 m.tab, .int .i64 m.size] 24)) 24 [.int .u64 (o.gen : Int), .int .u8 (o.area.toNat : Int), .int .i64 o.redo, .int .i64 o.tab, .int .i64 o.size] (w.heap.size + 1) (by simp))
  have HG0 := Lib.hid (grown_trans hga hgb)
  clear hT ho hm hga hgb hbl hbr hb hnk
  have u0 := HBM.out.cell 0 rfl
  have u1 := HBM.out.cell 1 rfl
  have u2 := HBM.out.cell 2 rfl
  have u3 := HBM.out.cell 3 rfl
  have u4 := HBM.out.cell 4 rfl
  unfold encM at HEo HEm
  go_enter Tryd.func5, Tryd.ntmps5
  go_wp2_with fail
  by_cases gm : GoodM m
  · rw [if_pos gm] at HEm
    refine (HEm.out _ (HT.out.grown HG0.out)).mono ?_
    rintro r w1 ⟨a1, n1, c1, rfl, hn1, hr1, _, hg, hcc⟩
    have hn45 : n1 = 45 := by rw [← hn1]; exact masterB_length m
    subst hn45
    have HN1 := Lib.hid hn1; have HR1 := Lib.hid hr1; have HG1 := Lib.hid (grown_trans HG0.out hg); have HC1 := Lib.hid hcc
    have HBO1 := Lib.hid (HBO.out.grown hg); have HBM1 := Lib.hid (HBM.out.grown hg)
    simp only at HN1 HR1
    clear hn1 hr1 hg hcc HG0 HBO HBM u0 u1 u2 u3 u4
    go_wp2_with (at_builtin; refine wpList_append_bytes2 (o := ⟨some 35, _, _, _, _, _⟩) rfl _ _ rfl w1.heap.size _ [] rfl (OwnB.made w1 #[] 0 (by simp [maxLen]) rfl) a1 _ c1 (masterB m) rfl (HR1.out.alloc _) HN1.out (by simp) (by simp) ?_)
    intro v2 w2 ho2 hg2 _
    have hg12 := grown_new (World.grownBy_alloc w1 _ none) (Nat.le_refl _) hg2
    have HO2 := Lib.hid (show OwnB w2 w1.heap.size v2 (masterB m) from ho2); have HG12 := Lib.hid hg12
    have HLT2 := Lib.hid ho2.lt
    clear ho2 hg2 hg12
    go_wp2_with (at_builtin; refine wpList_append_bytes2 (o := ⟨some 37, _, _, _, _, _⟩) rfl _ _ rfl w1.heap.size v2 (masterB m) rfl HO2.out am _ cap more rfl (HBR.out.old (grown_below (grown_trans HG1.out HG12.out))) HBL.out (by rw [masterB_length]; omega) HG12.out.size ?_)
    intro v3 w3 ho3 hg3 _
    obtain ⟨a3, n3, c3, rfl, hn3⟩ := ho3.len
    have hcap3 : n3 ≤ c3 ∧ c3 ≤ maxLen := by
      rcases ho3.2 with ⟨hv, _⟩ | ⟨q, cp, cur, hv, _, _, hnc, hcm, _⟩
      · cases hv; exact ⟨Nat.le_refl _, by simp [maxLen]⟩
      · obtain ⟨_, h1, h2⟩ := Value.slice.inj hv; subst h2; exact ⟨by omega, hcm⟩
    have hg13 := grown_row HG12.out (fun g h => (HLT2.out g h).1) hg3
    have HG3 := Lib.hid (grown_trans HG1.out hg13); have HBO3 := Lib.hid (HBO1.out.grown hg13); have HBM3 := Lib.hid (HBM1.out.grown hg13); have HR3 := Lib.hid (HR1.out.old (grown_below hg13))
    have HRS := Lib.hid (rs_of hn3 hcap3.1 hcap3.2 (RB.of_own ho3))
    have hn95 : n3 ≤ 1000 := by rw [← hn3, List.length_append, masterB_length, HBL.out]; omega
    clear ho3 hg3 hn3 hcap3 hg13 HO2 HG12 HLT2 HG1 HBO1 HBM1 HR1
    have HDC := Lib.hid (master_decode a3 n3 c3 _ w3 HRS.out hn95 (HT.out.grown HG3.out))
    rw [dec_enc HM.out gm more] at HDC
    go_wp2_with fail
    refine HDC.out.mono ?_
    rintro r w5 ⟨rfl, hg⟩
    have hgy := World.grownBy_alloc w5 (.cells #[.int .u64 (m.gen : Int), .int .u8 (m.area.toNat : Int), .int .i64 m.redo, .int .i64 m.tab, .int .i64 m.size] 24) none
    have HB5 := Lib.hid ((HBO3.out.grown hg).grown hgy); have HM5 := Lib.hid ((HBM3.out.grown hg).grown hgy)
    have HY5 := Lib.hid (Box.new w5 24 [.int .u64 (m.gen : Int), .int .u8 (m.area.toNat : Int), .int .i64 m.redo, .int .i64 m.tab, .int .i64 m.size] w5.heap.size rfl)
    have HG6 := Lib.hid (grown_trans (grown_trans HG3.out hg) hgy); have HR6 := Lib.hid ((HR3.out.old (grown_below hg)).old (grown_below hgy))
    clear hg hgy HG3 HBO3 HBM3 HR3 HRS
    have z0 := HY5.out.cell 0 rfl
    have z1 := HY5.out.cell 1 rfl
    have z2 := HY5.out.cell 2 rfl
    have z3 := HY5.out.cell 3 rfl
    have z4 := HY5.out.cell 4 rfl
    have f0 := HB5.out.cell 0 rfl
    have f1 := HB5.out.cell 1 rfl
    have f2 := HB5.out.cell 2 rfl
    have f3 := HB5.out.cell 3 rfl
    have f4 := HB5.out.cell 4 rfl
    have l0 := HM5.out.cell 0 rfl
    have l1 := HM5.out.cell 1 rfl
    have l2 := HM5.out.cell 2 rfl
    have l3 := HM5.out.cell 3 rfl
    have l4 := HM5.out.cell 4 rfl
    obtain ⟨⟨lo, eo⟩, hlo⟩ : ∃ t, (if GoodM o then (masterB o, (0 : Int)) else ([], 1)) = t := ⟨_, rfl⟩
    rw [hlo] at HEo
    have HLO := Lib.hid hlo
    clear hlo
    go_wp2_with fail
    refine (HEo.out _ (HT.out.grown HG6.out)).mono ?_
    rintro r w7 ⟨a7, n7, c7, rfl, hn7, hr7, _, hg, hcc⟩
    have HN7 := Lib.hid hn7; have HR7 := Lib.hid hr7; have HC7 := Lib.hid hcc
    simp only at HN7 HR7
    have HB7 := Lib.hid (HB5.out.grown hg); have HM7 := Lib.hid (HM5.out.grown hg)
    have HG7 := Lib.hid (grown_trans HG6.out hg); have HRb := Lib.hid (HR6.out.old (grown_below hg))
    clear hn7 hr7 hg hcc z0 z1 z2 z3 z4 f0 f1 f2 f3 f4 l0 l1 l2 l3 l4
    have f0 := HB7.out.cell 0 rfl
    have f1 := HB7.out.cell 1 rfl
    have f2 := HB7.out.cell 2 rfl
    have f3 := HB7.out.cell 3 rfl
    have f4 := HB7.out.cell 4 rfl
    have l0 := HM7.out.cell 0 rfl
    have l1 := HM7.out.cell 1 rfl
    have l2 := HM7.out.cell 2 rfl
    have l3 := HM7.out.cell 3 rfl
    have l4 := HM7.out.cell 4 rfl
    by_cases hge : eo = 0 ∧ m.gen ≤ o.gen
    · obtain ⟨rfl, hge⟩ := hge
      have hge' : (m.gen : Int) ≤ (o.gen : Int) := by omega
      go_wp2_with fail
      refine (master_works _ (HT.out.grown HG7.out)).mono ?_
      rintro r w9 ⟨rfl, hg⟩
      have HG9 := Lib.hid (grown_trans HG7.out hg)
      clear hg
      go_wp2_with fail
      go_ret
      exact ⟨rfl, grown_below HG9.out⟩
    · have hpk : pickM (m, 0) (decM lo) = (m, 0, 0) ∧ pickM (decM lo) (m, 0) = (m, 1, 0) ∧ n7 ≤ 1000 ∧ (eo == 0 → (o.gen : Int) < (m.gen : Int)) := by
        by_cases go : GoodM o
        · have h := HLO.out
          rw [if_pos go] at h
          simp only [Prod.mk.injEq] at h
          obtain ⟨rfl, rfl⟩ := h
          have hd := dec_enc HO.out go []
          rw [List.append_nil] at hd
          rw [hd]
          have hlt : o.gen < m.gen := by
            by_cases hh : m.gen ≤ o.gen
            · exact absurd ⟨rfl, hh⟩ hge
            · omega
          refine ⟨?_, ?_, by rw [← HN7.out, masterB_length]; decide, fun _ => by omega⟩
          · unfold pickM; rw [if_pos ⟨rfl, .inr (by simp only; omega)⟩]
          · unfold pickM; rw [if_neg (by rintro ⟨_, h | h⟩; exact h rfl; simp only at h; omega), if_pos rfl]
        · have h := HLO.out
          rw [if_neg go] at h
          simp only [Prod.mk.injEq] at h
          obtain ⟨rfl, rfl⟩ := h
          have hd : decM [] = (zeroM, 6) := by unfold decM; rw [if_pos (by decide)]
          rw [hd]
          refine ⟨?_, ?_, by rw [← HN7.out]; decide, fun h => absurd h (by decide)⟩
          · unfold pickM; rw [if_pos ⟨rfl, .inl (by decide)⟩]
          · unfold pickM; rw [if_neg (fun h => absurd h.1 (by decide)), if_pos rfl]
      obtain ⟨hp1, hp2, hn7', hgt⟩ := hpk
      have hdm := dec_enc HM.out gm []
      rw [List.append_nil] at hdm
      have HP1 := Lib.hid (fun w' (h : w7.grownBy w' none) => (master_pick a1 45 c1 (masterB m) a7 n7 c7 lo w' (rs_of HN1.out HC1.out.1 HC1.out.2 (HRb.out.old (grown_below h))) (by decide) (rs_of HN7.out HC7.out.1 HC7.out.2 (HR7.out.old (grown_below h))) hn7' (HT.out.grown (grown_trans HG7.out h))))
      have HP2 := Lib.hid (fun w' (h : w7.grownBy w' none) => (master_pick a7 n7 c7 lo a1 45 c1 (masterB m) w' (rs_of HN7.out HC7.out.1 HC7.out.2 (HR7.out.old (grown_below h))) hn7' (rs_of HN1.out HC1.out.1 HC1.out.2 (HRb.out.old (grown_below h))) (by decide) (HT.out.grown (grown_trans HG7.out h))))
      rw [hdm, hp1] at HP1
      rw [hdm, hp2] at HP2
      clear hp1 hp2 hdm hn7' hge
      by_cases heo : eo = 0
      · subst heo
        have hgt' := hgt (by decide)
        clear hgt
        go_wp2_with fail
        refine (HP1.out _ (World.grownBy.refl _ _)).mono ?_
        rintro r w8 ⟨rfl, hg⟩
        have hgp := World.grownBy_alloc w8 (.cells #[.int .u64 (m.gen : Int), .int .u8 (m.area.toNat : Int), .int .i64 m.redo, .int .i64 m.tab, .int .i64 m.size] 24) none
        have HG78 := Lib.hid (grown_trans hg hgp)
        have HPB := Lib.hid (Box.new w8 24 [.int .u64 (m.gen : Int), .int .u8 (m.area.toNat : Int), .int .i64 m.redo, .int .i64 m.tab, .int .i64 m.size] w8.heap.size rfl)
        have HM8 := Lib.hid (HM7.out.grown (grown_trans hg hgp))
        clear hg hgp f0 f1 f2 f3 f4 l0 l1 l2 l3 l4
        go_wp2_with fail
        refine (HP2.out _ HG78.out).mono ?_
        rintro r w10 ⟨rfl, hg⟩
        have hgp := World.grownBy_alloc w10 (.cells #[.int .u64 (m.gen : Int), .int .u8 (m.area.toNat : Int), .int .i64 m.redo, .int .i64 m.tab, .int .i64 m.size] 24) none
        have HGF := Lib.hid (grown_trans HG7.out (grown_trans HG78.out (grown_trans hg hgp)))
        have HQB := Lib.hid (Box.new w10 24 [.int .u64 (m.gen : Int), .int .u8 (m.area.toNat : Int), .int .i64 m.redo, .int .i64 m.tab, .int .i64 m.size] w10.heap.size rfl)
        have HPB2 := Lib.hid (HPB.out.grown (grown_trans hg hgp))
        have HMF := Lib.hid (HM8.out.grown (grown_trans hg hgp))
        clear hg hgp
        have l0 := HMF.out.cell 0 rfl
        have l1 := HMF.out.cell 1 rfl
        have l2 := HMF.out.cell 2 rfl
        have l3 := HMF.out.cell 3 rfl
        have l4 := HMF.out.cell 4 rfl
        have p0 := HPB2.out.cell 0 rfl
        have p1 := HPB2.out.cell 1 rfl
        have p2 := HPB2.out.cell 2 rfl
        have p3 := HPB2.out.cell 3 rfl
        have p4 := HPB2.out.cell 4 rfl
        have q0 := HQB.out.cell 0 rfl
        have q1 := HQB.out.cell 1 rfl
        have q2 := HQB.out.cell 2 rfl
        have q3 := HQB.out.cell 3 rfl
        have q4 := HQB.out.cell 4 rfl
        go_wp2_with fail
        refine (master_works _ (HT.out.grown HGF.out)).mono ?_
        rintro r w9 ⟨rfl, hg⟩
        have HG9 := Lib.hid (grown_trans HGF.out hg)
        clear hg
        go_wp2_with fail
        go_ret
        exact ⟨rfl, grown_below HG9.out⟩
      · have heo' : (eo == 0) = false := by simpa using heo
        clear hgt
        go_wp2_with fail
        refine (HP1.out _ (World.grownBy.refl _ _)).mono ?_
        rintro r w8 ⟨rfl, hg⟩
        have hgp := World.grownBy_alloc w8 (.cells #[.int .u64 (m.gen : Int), .int .u8 (m.area.toNat : Int), .int .i64 m.redo, .int .i64 m.tab, .int .i64 m.size] 24) none
        have HG78 := Lib.hid (grown_trans hg hgp)
        have HPB := Lib.hid (Box.new w8 24 [.int .u64 (m.gen : Int), .int .u8 (m.area.toNat : Int), .int .i64 m.redo, .int .i64 m.tab, .int .i64 m.size] w8.heap.size rfl)
        have HM8 := Lib.hid (HM7.out.grown (grown_trans hg hgp))
        clear hg hgp f0 f1 f2 f3 f4 l0 l1 l2 l3 l4
        go_wp2_with fail
        refine (HP2.out _ HG78.out).mono ?_
        rintro r w10 ⟨rfl, hg⟩
        have hgp := World.grownBy_alloc w10 (.cells #[.int .u64 (m.gen : Int), .int .u8 (m.area.toNat : Int), .int .i64 m.redo, .int .i64 m.tab, .int .i64 m.size] 24) none
        have HGF := Lib.hid (grown_trans HG7.out (grown_trans HG78.out (grown_trans hg hgp)))
        have HQB := Lib.hid (Box.new w10 24 [.int .u64 (m.gen : Int), .int .u8 (m.area.toNat : Int), .int .i64 m.redo, .int .i64 m.tab, .int .i64 m.size] w10.heap.size rfl)
        have HPB2 := Lib.hid (HPB.out.grown (grown_trans hg hgp))
        have HMF := Lib.hid (HM8.out.grown (grown_trans hg hgp))
        clear hg hgp
        have l0 := HMF.out.cell 0 rfl
        have l1 := HMF.out.cell 1 rfl
        have l2 := HMF.out.cell 2 rfl
        have l3 := HMF.out.cell 3 rfl
        have l4 := HMF.out.cell 4 rfl
        have p0 := HPB2.out.cell 0 rfl
        have p1 := HPB2.out.cell 1 rfl
        have p2 := HPB2.out.cell 2 rfl
        have p3 := HPB2.out.cell 3 rfl
        have p4 := HPB2.out.cell 4 rfl
        have q0 := HQB.out.cell 0 rfl
        have q1 := HQB.out.cell 1 rfl
        have q2 := HQB.out.cell 2 rfl
        have q3 := HQB.out.cell 3 rfl
        have q4 := HQB.out.cell 4 rfl
        go_wp2_with fail
        refine (master_works _ (HT.out.grown HGF.out)).mono ?_
        rintro r w9 ⟨rfl, hg⟩
        have HG9 := Lib.hid (grown_trans HGF.out hg)
        clear hg
        go_wp2_with fail
        go_ret
        exact ⟨rfl, grown_below HG9.out⟩
  · rw [if_neg gm] at HEm
    refine (HEm.out _ (HT.out.grown HG0.out)).mono ?_
    rintro r w1 ⟨a1, n1, c1, rfl, hn1, hr1, _, hg, hcc⟩
    have HG1 := Lib.hid (grown_trans HG0.out hg)
    clear hn1 hr1 hg hcc
    go_wp2_with fail
    refine (master_works _ (HT.out.grown HG1.out)).mono ?_
    rintro r w9 ⟨rfl, hg⟩
    have HG9 := Lib.hid (grown_trans HG1.out hg)
    clear hg
    go_wp2_with fail
    go_ret
    exact ⟨rfl, grown_below HG9.out⟩

end Go.Proofs.YtfmcbnoldcfcbaaDoor
