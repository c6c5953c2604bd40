/-
  The example, and MasterTorn.
-/
import Derived.Test.YtfmcbnoldcfcbaaDoorMasterPlain
namespace Go.Proofs.YtfmcbnoldcfcbaaDoor
open Go.RowKit

theorem rs_of {w : World} {a : Option Addr} {n c : Nat} {l : List UInt8} (hl : l.length = n) (hc : n ≤ c) (hm : c ≤ maxLen) (h : RB w a l) : RS w (fun _ => False) a n c l := ⟨hl, hc, hm, RX.of_rb h (fun _ _ _ h => h)⟩

theorem step_append_bytes2 {ops : Array Oper} {o : Oper} {a : Act} {w : World} {K : Act → World → Prop} {Q : Exit → Act → World → Prop} {E : Prop} (hgd : o.guard = none) (s x : Operand)
    (ho : o.op = .call { callee := .builtin .append, args := #[s, x], argTypes := #[25, 25] })
    (base : Nat) (v : Value) (l : List UInt8) (hs : a.eval s = v) (hown : OwnB w base v l)
    (ao : Option Addr) (m c : Nat) (src : List UInt8) (hx : a.eval x = .slice ao m c) (hr : RB w ao src) (hm : src.length = m)
    (hbytes : l.length + m ≤ 140737488355328) (hbase : base ≤ w.heap.size)
    (h : ∀ v' w', OwnB w' base v' (l ++ src) → w.grownBy w' v.ownBlock → (∀ k, v'.ownBlock = some k → v.ownBlock = some k ∨ w.heap.size ≤ k) → K (a.put o.dst v') w') :
    if Region.wanted o (yielded ops a.tmps) = true then Oper.wp Tryd.prog o a w K Q else E := by
  have hw : Region.wanted o (yielded ops a.tmps) = true := by simp [Region.wanted, hgd]
  rw [if_pos hw]
  exact wp_append_bytes2 s x ho base v l hs hown ao m c src hx hr hm hbytes hbase h

def M0 : MasterV := ⟨3, 1, 5, 9, 77⟩
theorem ok0 : M0.ok := ⟨by decide, by decide, by decide, by decide⟩
theorem good0 : GoodM M0 := by decide

set_option maxRecDepth 100000 in
set_option maxHeartbeats 1600000 in
theorem master_works (w : World) (hT : Tab w) :
    Calls Tryd.prog 13 #[] w fun r w' => r = .returned (.bool true) ∧ w.grownBy w' none := by
  have HT := Lib.hid hT; clear hT
  have hc : ∀ w, Tab w → Calls Tryd.prog 7 #[.agg #[.int .u64 3, .int .u8 1, .int .i64 5, .int .i64 9, .int .i64 77]] w (EncPost w (masterB M0, 0)) := fun w h => by
    have := master_encode M0 ok0 w h
    unfold encM at this
    rw [if_pos good0] at this
    exact this
  have HC := Lib.hid hc
  clear hc
  have r5 : ∀ u : World, (Instr.makeSlice 25 (.int .i64 64) (.int .i64 64)).run Tryd.prog u = .ok (.slice (some ⟨u.heap.size, 0, none⟩) 64 64) (u.alloc (.cells (madeCells #[.int .u8 0] 64) 5)) := make_bytes 64 (by decide)
  go_enter Tryd.func13, Tryd.ntmps13
  go_wp2_with fail
  refine (HC.out _ HT.out).mono ?_
  rintro r w1 ⟨a1, n1, c1, rfl, hn1, hr, _, hg, hcc⟩
  have hn1' : n1 = 45 := by rw [← hn1]; exact masterB_length M0
  subst hn1'
  have HN1 := Lib.hid hn1; have HR1 := Lib.hid hr; have HG1 := Lib.hid hg
  have HCC := Lib.hid hcc
  simp only at HN1 HR1
  clear hn1 hr hg hcc
  go_wp2_with fail
  have hgz := World.grownBy_alloc w1 (.cells (madeCells #[.int .u8 0] 64) 5) none
  have hrz := (BlkB.zero w1 64).reads 0
  rw [List.drop_zero] at hrz
  have hcc := HCC.out
  have hp := master_pick _ 64 64 (List.replicate 64 0) a1 45 c1 (masterB M0) _ (rs_of (by simp) (Nat.le_refl _) (by simp [maxLen]) hrz) (by decide) (rs_of HN1.out hcc.1 hcc.2 (HR1.out.old (grown_below hgz))) (by decide) (HT.out.grown (grown_trans HG1.out hgz))
  have hd := dec_enc ok0 good0 []
  rw [List.append_nil] at hd
  rw [dec_zero, hd, show pickM (zeroM, 9) (M0, 0) = (M0, 1, 0) from by unfold pickM; rw [if_neg (by decide), if_pos rfl]] at hp
  refine hp.mono ?_
  rintro r w2 ⟨rfl, hg⟩
  have HG2 := Lib.hid (grown_trans (grown_trans HG1.out hgz) hg)
  clear hp hd hcc hrz hgz hg r5
  go_wp2_with fail
  go_ret
  exact ⟨rfl, grown_trans HG2.out (World.grownBy_alloc _ _ none)⟩

set_option maxRecDepth 100000 in
set_option maxHeartbeats 3200000 in
theorem masterTorn_walk (o m : MasterV) (x : Int) (ho : o.ok) (hm : m.ok) (hx : 0 ≤ x ∧ x ≤ 255) (w : World) (hT : Tab w) :
    Calls Tryd.prog 6 #[.agg #[.int .u64 (o.gen : Int), .int .u8 (o.area.toNat : Int), .int .i64 o.redo, .int .i64 o.tab, .int .i64 o.size], .agg #[.int .u64 (m.gen : Int), .int .u8 (m.area.toNat : Int), .int .i64 m.redo, .int .i64 m.tab, .int .i64 m.size], .int .u8 x] w fun r w' => r = .returned (.bool true) ∧ Below w.heap.size w w' := by
  have HT := Lib.hid hT
  have HEo := Lib.hid (fun w' (h : Tab w') => master_encode o ho w' h)
  have HEm := Lib.hid (fun w' (h : Tab w') => master_encode m hm w' h)
  have HO := Lib.hid ho; have HM := Lib.hid hm
  obtain ⟨x0, x1⟩ := hx
  have hga := World.grownBy_alloc w (.cells #[.int .u64 (o.gen : Int), .int .u8 (o.area.toNat : Int), .int .i64 o.redo, .int .i64 o.tab, .int .i64 o.size] 24) none
  have hgb := World.grownBy_alloc (w.alloc (.cells #[.int .u64 (o.gen : Int), .int .u8 (o.area.toNat : Int), .int .i64 o.redo, .int .i64 o.tab, .int .i64 o.size] 24)) (.cells #[.int .u64 (m.gen : Int), .int .u8 (m.area.toNat : Int), .int .i64 m.redo, .int .i64 m.tab, .int .i64 m.size] 24) none
  have HBO := Lib.hid ((Box.new w 24 [.int .u64 (o.gen : Int), .int .u8 (o.area.toNat : Int), .int .i64 o.redo, .int .i64 o.tab, .int .i64 o.size] w.heap.size rfl).alloc (.cells #[.int .u64 (m.gen : Int), .int .u8 (m.area.toNat : Int), .int .i64 m.redo, .int .i64 m.tab, .int .i64 m.size] 24))
  have HBM := Lib.hid (Box.new (w.alloc (.cells #[.int .u64 (o.gen : Int), .int .u8 (o.area.toNat : Int), .int .i64 o.redo, .int .i64 o.tab, .int .i64 o.size] 24)) 24 [.int .u64 (m.gen : Int), .int .u8 (m.area.toNat : Int), .int .i64 m.redo, .int .i64 m.tab, .int .i64 m.size] (w.heap.size + 1) (by simp))
  have HG0 := Lib.hid (grown_trans hga hgb)
  clear hT ho hm hga hgb
  unfold encM at HEo HEm
  obtain ⟨⟨lo, eo⟩, hlo⟩ : ∃ t, (if GoodM o then (masterB o, (0 : Int)) else ([], 1)) = t := ⟨_, rfl⟩
  obtain ⟨⟨lm, em⟩, hlm⟩ : ∃ t, (if GoodM m then (masterB m, (0 : Int)) else ([], 1)) = t := ⟨_, rfl⟩
  rw [hlo] at HEo
  rw [hlm] at HEm
  have HLO := Lib.hid hlo; have HLM := Lib.hid hlm
  clear hlo hlm
  go_enter Tryd.func6, Tryd.ntmps6
  go_wp2_with fail
  refine (HEo.out _ (HT.out.grown HG0.out)).mono ?_
  rintro r w1 ⟨a1, n1, c1, rfl, hn1, hr1, _, hg, hcc⟩
  have HN1 := Lib.hid hn1; have HR1 := Lib.hid hr1; have HG1 := Lib.hid (grown_trans HG0.out hg); have HC1 := Lib.hid hcc
  have HBO1 := Lib.hid (HBO.out.grown hg); have HBM1 := Lib.hid (HBM.out.grown hg)
  simp only at HN1 HR1
  clear hn1 hr1 hg hcc HG0 HBO HBM HEo
  have u0 := HBM1.out.cell 0 rfl
  have u1 := HBM1.out.cell 1 rfl
  have u2 := HBM1.out.cell 2 rfl
  have u3 := HBM1.out.cell 3 rfl
  have u4 := HBM1.out.cell 4 rfl
  go_wp2_with fail
  refine (HEm.out _ (HT.out.grown HG1.out)).mono ?_
  rintro r w2 ⟨a2, n2, c2, rfl, hn2, hr2, _, hg, hcc⟩
  have HN2 := Lib.hid hn2; have HR2 := Lib.hid hr2; have HR1' := Lib.hid (HR1.out.old (grown_below hg)); have HG2 := Lib.hid (grown_trans HG1.out hg); have HC2 := Lib.hid hcc
  have HBO2 := Lib.hid (HBO1.out.grown hg); have HBM2 := Lib.hid (HBM1.out.grown hg)
  simp only at HN2 HR2
  clear hn2 hr2 hg hcc HG1 HBO1 HBM1 HEm u0 u1 u2 u3 u4 HR1
  have u0 := HBM2.out.cell 0 rfl
  have v0 := HBO2.out.cell 0 rfl
  by_cases go : GoodM o
  · by_cases gm : GoodM m
    · have hlo := HLO.out
      have hlm := HLM.out
      rw [if_pos go] at hlo
      rw [if_pos gm] at hlm
      simp only [Prod.mk.injEq] at hlo hlm
      obtain ⟨rfl, rfl⟩ := hlo
      obtain ⟨rfl, rfl⟩ := hlm
      by_cases hge : o.gen = m.gen
      · have hge' : ((o.gen : Int) == (m.gen : Int)) = true := by simp [hge]
        clear hge
        go_wp2_with fail
        refine (master_works _ (HT.out.grown HG2.out)).mono ?_
        rintro r w9 ⟨rfl, hg⟩
        have HG9 := Lib.hid (grown_trans HG2.out hg)
        clear hg
        go_wp2_with fail
        go_ret
        exact ⟨rfl, grown_below HG9.out⟩
      · have hn1' : n1 = 45 := by rw [← HN1.out]; exact masterB_length o
        have hn2' : n2 = 45 := by rw [← HN2.out]; exact masterB_length m
        subst hn1' hn2'
        have hge' : ((o.gen : Int) == (m.gen : Int)) = false := by simp; omega
        have hge2 : ((m.gen : Int) == (o.gen : Int)) = false := by simp; omega
        have HGE := Lib.hid hge
        clear hge
        obtain ⟨k, hk, hk45⟩ : ∃ k : Nat, x % 46 = (k : Int) ∧ k ≤ 45 := ⟨(x % 46).toNat, by omega, by omega⟩
        have hkc2 : (k : Int) ≤ (c2 : Int) := by have := HC2.out.1; omega
        have hkc1 : (k : Int) ≤ (c1 : Int) := by have := HC1.out.1; omega
        have h45c1 : (45 : Int) ≤ (c1 : Int) := by have := HC1.out.1; omega
        have hk0 : (0 : Int) ≤ (k : Int) := by omega
        have hk5 : (k : Int) ≤ 45 := by omega
        obtain ⟨ba, oa, hba, _⟩ := HR1'.out.get 0 (by rw [masterB_length]; decide)
        subst hba
        have hlm : ((masterB m).take k).length = k := by rw [List.length_take, masterB_length]; omega
        have hlo : ((masterB o).drop k).length = 45 - k := by rw [List.length_drop, masterB_length]
        have HLm := Lib.hid hlm; have HLo := Lib.hid hlo
        have HRm := Lib.hid (show RB w2.drew a2 ((masterB m).take k) from HR2.out.take k)
        have hro : RB w2 (some ⟨ba, oa + k, none⟩) ((masterB o).drop k) := by
          intro i hi
          rw [HLo.out] at hi
          obtain ⟨b', o', e, hc⟩ := HR1'.out (k + i) (by rw [masterB_length]; omega)
          cases e
          exact ⟨ba, oa + k, rfl, by rw [List.getElem_drop, Nat.add_assoc]; exact hc⟩
        have HRo := Lib.hid hro
        clear hlm hlo hro HLO HLM
        go_wp2_with fail
        try rw [hk]
        go_region_law (first
          | (refine step_append_bytes2 (by rfl) _ _ (by rfl) w2.heap.size _ [] (by rfl) (OwnB.made w2.drew #[] 0 (by simp [maxLen]) rfl) a2 k c2 ((masterB m).take k) (by rfl) (HRm.out.alloc _) HLm.out (by simp; omega) (by simp [World.drew]) ?_
             intro v3 w3 ho3 hg3 hl3
             have hg23 := grown_new (grown_trans (grown_drew1 w2) (World.grownBy_alloc w2.drew (.cells #[] 5) none)) (Nat.le_refl _) hg3)
          | (refine step_append_bytes2 (by rfl) _ _ (by rfl) w2.heap.size v3 ((masterB m).take k) (by rfl) ho3 _ (45 - k) _ ((masterB o).drop k) (by rfl) (by first | exact HRo.out.old (grown_below hg23) | (split <;> first | exact HRo.out.old (grown_below hg23) | (rw [List.drop_of_length_le (by rw [masterB_length]; omega)]; exact RB.nil _ _))) HLo.out (by rw [HLm.out]; omega) hg23.size ?_
             intro v4 w4 ho4 hg4 hl4))
        all_goals (
          have HG4 := Lib.hid (grown_trans HG2.out (grown_row hg23 (fun g h => (ho3.lt g h).1) hg4))
          have HG24 := Lib.hid (grown_row hg23 (fun g h => (ho3.lt g h).1) hg4)
          obtain ⟨a4, n4, c4, rfl, hn4⟩ := ho4.len
          have hcap4 : n4 ≤ c4 ∧ c4 ≤ maxLen := by
            rcases ho4.2 with ⟨hv, _⟩ | ⟨q, cp, cur, hv, _, _, hnc, hcm, _⟩
            · cases hv; exact ⟨Nat.le_refl _, by simp [maxLen]⟩
            · obtain ⟨_, h1, h2⟩ := Value.slice.inj hv; subst h2; exact ⟨by omega, hcm⟩
          have hn45 : n4 = 45 := by rw [← hn4, List.length_append, HLm.out, HLo.out]; omega
          subst hn45
          have HRS := Lib.hid (rs_of hn4 hcap4.1 hcap4.2 (RB.of_own ho4))
          have HBO4 := Lib.hid (HBO2.out.grown HG24.out); have HBM4 := Lib.hid (HBM2.out.grown HG24.out)
          clear ho3 hg3 hl3 hg23 ho4 hg4 hl4 hn4 hcap4 u0 v0 HBO2 HBM2 HG24)
        all_goals (
          have HTL := Lib.hid (torn_law HO.out HM.out HGE.out k hk45)
          obtain ⟨⟨y, g⟩, hd⟩ : ∃ t, decM ((masterB m).take k ++ (masterB o).drop k) = t := ⟨_, rfl⟩
          have HDC := Lib.hid (master_decode a4 45 c4 _ w4 HRS.out (by decide) (HT.out.grown HG4.out))
          rw [hd] at HDC
          have HD := Lib.hid hd
          clear hd
          have f0 := HBO4.out.cell 0 rfl
          have f1 := HBO4.out.cell 1 rfl
          have f2 := HBO4.out.cell 2 rfl
          have f3 := HBO4.out.cell 3 rfl
          have f4 := HBO4.out.cell 4 rfl
          have l0 := HBM4.out.cell 0 rfl
          have l1 := HBM4.out.cell 1 rfl
          have l2 := HBM4.out.cell 2 rfl
          have l3 := HBM4.out.cell 3 rfl
          have l4 := HBM4.out.cell 4 rfl
          go_wp2_with fail
          all_goals (
            refine HDC.out.mono ?_
            rintro r w5 ⟨rfl, hg⟩
            have HG5 := Lib.hid (grown_trans HG4.out hg)
            have hgy := World.grownBy_alloc w5 (.cells #[.int .u64 (y.gen : Int), .int .u8 (y.area.toNat : Int), .int .i64 y.redo, .int .i64 y.tab, .int .i64 y.size] 24) none
            have HB5 := Lib.hid ((HBO4.out.grown hg).grown hgy); have HM5 := Lib.hid ((HBM4.out.grown hg).grown hgy)
            have HY5 := Lib.hid (Box.new w5 24 [.int .u64 (y.gen : Int), .int .u8 (y.area.toNat : Int), .int .i64 y.redo, .int .i64 y.tab, .int .i64 y.size] w5.heap.size rfl)
            have HG6 := Lib.hid (grown_trans HG5.out hgy)
            clear hg hgy f0 f1 f2 f3 f4 l0 l1 l2 l3 l4
            have htl := HTL.out
            by_cases hg0 : g = 0
            · subst hg0
              have hcase : (y = o ∧ k ≠ 45) ∨ (y = m ∧ k ≠ 0) := by
                rcases htl with h | h | h
                · rw [HD.out] at h; exact absurd rfl h
                · left
                  have h2 := HD.out
                  rw [h] at h2
                  have h3 := dec_enc HO.out go []
                  rw [List.append_nil] at h3
                  rw [h3] at h2
                  refine ⟨(congrArg Prod.fst h2).symm, fun h45 => ?_⟩
                  subst h45
                  rw [List.take_of_length_le (by rw [masterB_length]; decide), List.drop_of_length_le (by rw [masterB_length]; decide), List.append_nil] at h
                  have h4 := dec_enc HM.out gm []
                  rw [List.append_nil, h, h3] at h4
                  exact HGE.out (by rw [show o = m from congrArg Prod.fst h4])
                · right
                  have h2 := HD.out
                  rw [h] at h2
                  have h3 := dec_enc HM.out gm []
                  rw [List.append_nil] at h3
                  rw [h3] at h2
                  refine ⟨(congrArg Prod.fst h2).symm, fun h00 => ?_⟩
                  subst h00
                  rw [List.take_zero, List.nil_append, List.drop_zero] at h
                  have h4 := dec_enc HO.out go []
                  rw [List.append_nil, h, h3] at h4
                  exact HGE.out (by rw [show m = o from congrArg Prod.fst h4])
              rcases hcase with ⟨rfl, hk4⟩ | ⟨rfl, hk4⟩
              all_goals (
                have f0 := HB5.out.cell 0 rfl
                have f1 := HB5.out.cell 1 rfl
                have f2 := HB5.out.cell 2 rfl
                have f3 := HB5.out.cell 3 rfl
                have f4 := HB5.out.cell 4 rfl
                have l0 := HM5.out.cell 0 rfl
                have l1 := HM5.out.cell 1 rfl
                have l2 := HM5.out.cell 2 rfl
                have l3 := HM5.out.cell 3 rfl
                have l4 := HM5.out.cell 4 rfl
                have z0 := HY5.out.cell 0 rfl
                have z1 := HY5.out.cell 1 rfl
                have z2 := HY5.out.cell 2 rfl
                have z3 := HY5.out.cell 3 rfl
                have z4 := HY5.out.cell 4 rfl
                first
                  | have hkb : ((k : Int) == 45) = false := by simp only [beq_eq_false_iff_ne, ne_eq]; omega
                  | have hkb : ((k : Int) == 0) = false := by simp only [beq_eq_false_iff_ne, ne_eq]; omega
                first
                  | (exfalso; omega)
                  | (go_wp2_with fail
                     all_goals (
                      refine (master_works _ (HT.out.grown HG6.out)).mono ?_
                      rintro r w9 ⟨rfl, hg⟩
                      have HG9 := Lib.hid (grown_trans HG6.out hg)
                      clear hg
                      go_wp2_with fail
                      go_ret
                      exact ⟨rfl, grown_below HG9.out⟩)))
            · have hg0' : (g == 0) = false := by simpa using hg0
              have hg1' : (g != 0) = true := by simp [hg0]
              have hk00 : ((k : Int) == 0) = false := by
                simp only [beq_eq_false_iff_ne, ne_eq]
                intro h
                have hk0 : k = 0 := by omega
                have h2 := HD.out
                rw [hk0, List.take_zero, List.nil_append, List.drop_zero] at h2
                have h3 := dec_enc HO.out go []
                rw [List.append_nil, h2] at h3
                exact hg0 (congrArg Prod.snd h3)
              have hk55 : ((k : Int) == 45) = false := by
                simp only [beq_eq_false_iff_ne, ne_eq]
                intro h
                have hk5 : k = 45 := by omega
                have h2 := HD.out
                rw [hk5, List.take_of_length_le (by rw [masterB_length]; decide), List.drop_of_length_le (by rw [masterB_length]; decide), List.append_nil] at h2
                have h3 := dec_enc HM.out gm []
                rw [List.append_nil, h2] at h3
                exact hg0 (congrArg Prod.snd h3)
              clear htl
              go_wp2_with fail
              refine (master_works _ (HT.out.grown HG6.out)).mono ?_
              rintro r w9 ⟨rfl, hg⟩
              have HG9 := Lib.hid (grown_trans HG6.out hg)
              clear hg
              go_wp2_with fail
              go_ret
              exact ⟨rfl, grown_below HG9.out⟩))
    · have hlm := HLM.out
      rw [if_neg gm] at hlm
      simp only [Prod.mk.injEq] at hlm
      obtain ⟨rfl, rfl⟩ := hlm
      have hlo : eo = 0 := by have := HLO.out; rw [if_pos go] at this; simp only [Prod.mk.injEq] at this; exact this.2.symm
      subst hlo
      go_wp2_with fail
      refine (master_works _ (HT.out.grown HG2.out)).mono ?_
      rintro r w9 ⟨rfl, hg⟩
      have HG9 := Lib.hid (grown_trans HG2.out hg)
      clear hg
      go_wp2_with fail
      go_ret
      exact ⟨rfl, grown_below HG9.out⟩
  · have hlo : eo = 1 := by have := HLO.out; rw [if_neg go] at this; simp only [Prod.mk.injEq] at this; exact this.2.symm
    subst hlo
    go_wp2_with fail
    refine (master_works _ (HT.out.grown HG2.out)).mono ?_
    rintro r w9 ⟨rfl, hg⟩
    have HG9 := Lib.hid (grown_trans HG2.out hg)
    clear hg
    go_wp2_with fail
    go_ret
    exact ⟨rfl, grown_below HG9.out⟩

end Go.Proofs.YtfmcbnoldcfcbaaDoor
