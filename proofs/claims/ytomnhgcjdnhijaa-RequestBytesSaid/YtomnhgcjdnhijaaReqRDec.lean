/-
  Requests are decoded by the document.
-/
import Derived.Test.YtomnhgcjdnhijaaReqAgree
import Derived.Deep.DeepCutAuto
namespace Go.Proofs.Ytomnhgcjdnhijaa
open Go.RowKit
set_option maxRecDepth 100000
theorem drew_same (W : World) (a : Addr) : W.drew.cell? a = W.cell? a := rfl

set_option maxHeartbeats 6400000 in
theorem ref_reqDecode (a : Option Addr) (n c : Nat) (l : List UInt8) (w : World) (hn : l.length = n) (hc : n ≤ c) (hcm : c ≤ maxLen) (hr : RB w a l) :
    Calls Try.prog 15 #[.slice a n c] w (DecQPost w (decR l)) := by
  obtain ⟨W0, hW0⟩ : ∃ u, w.alloc (.cells #[.int .u8 0, .int .u32 0, .int .u8 0, .slice none 0 0, .int .u8 0, .int .u8 0, .int .u8 0, .int .i64 0] 25) = u := ⟨_, rfl⟩
  have hs0 : W0.heap.size = w.heap.size + 1 := by rw [← hW0]; simp
  have hr0 : RB W0 a l := by rw [← hW0]; exact hr.alloc _
  have hB0 : Box W0 w.heap.size 25 [.int .u8 0, .int .u32 0, .int .u8 0, .slice none 0 0, .int .u8 0, .int .u8 0, .int .u8 0, .int .i64 0] := by rw [← hW0]; exact Box.new w 25 [.int .u8 0, .int .u32 0, .int .u8 0, .slice none 0 0, .int .u8 0, .int .u8 0, .int .u8 0, .int .i64 0] w.heap.size rfl
  have hg0 : w.grownBy W0 none := by rw [← hW0]; exact World.grownBy_alloc w _ none
  have hR1 := RR.new (w := W0) hn hc hcm hr0
  have hR2 := hR1.grown (World.grownBy_alloc _ (.cells #[.int .u8 0, .int .u32 0, .int .u8 0, .slice none 0 0, .int .u8 0, .int .u8 0, .int .u8 0, .int .i64 0] 25) none)
  have hB2 := (hB0.alloc (.cells #[.slice a n c, .int .i64 0] 86)).alloc (.cells #[.int .u8 0, .int .u32 0, .int .u8 0, .slice none 0 0, .int .u8 0, .int .u8 0, .int .u8 0, .int .i64 0] 25)
  have hX2 := Box.new (W0.alloc (.cells #[.slice a n c, .int .i64 0] 86)) 25 [.int .u8 0, .int .u32 0, .int .u8 0, .slice none 0 0, .int .u8 0, .int .u8 0, .int .u8 0, .int .i64 0] (W0.heap.size + 1) (by simp)
  obtain ⟨T, hT⟩ : ∃ T, decR l = T := ⟨_, rfl⟩
  rw [hT]
  have HT := Lib.hid hT; have HGA := Lib.hid hg0
  have HR2 := Lib.hid hR2; have BR2 := Lib.hid hB2; have BX2 := Lib.hid hX2
  have SI := set_idx
  have SF := set_far
  have HW0 := Lib.hid hW0
  have hs1 : (W0.alloc (.cells #[.slice a n c, .int .i64 0] 86)).heap.size = W0.heap.size + 1 := by simp
  clear hr0 hB0 hg0 hR1 hR2 hB2 hX2 hT hn hc hcm hr
  go_enter Try.func15, Try.ntmps15
  go_wp2_with fail
  have hgr : w.grownBy ((W0.alloc (.cells #[.slice a n c, .int .i64 0] 86)).alloc (.cells #[.int .u8 0, .int .u32 0, .int .u8 0, .slice none 0 0, .int .u8 0, .int .u8 0, .int .u8 0, .int .i64 0] 25)) none := growA _ _ (growA _ _ HGA.out)
  generalize (W0.alloc (.cells #[.slice a n c, .int .i64 0] 86)).alloc (.cells #[.int .u8 0, .int .u32 0, .int .u8 0, .slice none 0 0, .int .u8 0, .int .u8 0, .int .u8 0, .int .i64 0] 25) = w2 at *
  rw [hs0] at HR2 BX2
  have hg0 : W0.heap.size ≤ w.heap.size + 1 + 1 := by omega
  obtain ⟨bx, hbx⟩ : ∃ bx, w.heap.size + 1 + 1 = bx := ⟨_, rfl⟩
  obtain ⟨g, hgg⟩ : ∃ g, w.heap.size + 1 = g := ⟨_, rfl⟩
  rw [hbx] at BX2 hg0
  rw [hgg] at HR2
  rw [hgg] at hbx
  have hne : bx ≠ g := by omega
  have hne2 : g ≠ bx := by omega
  have hneR : g ≠ w.heap.size := by omega
  have hneR2 : w.heap.size ≠ g := by omega
  have hbw : bx ≠ w.heap.size := by omega
  have hbw2 : w.heap.size ≠ bx := by omega
  simp only [hgg, hbx]
  have HLB := Lib.hid hg0
  clear hs0 hs1 hg0
  rcases l with _ | ⟨k, rs⟩
  · have HTT := Lib.hid (show T = (zeroQ, 6) from HT.out.symm.trans rfl)
    have HGF0 := Lib.hid HGA.out
    have Hz1 := Lib.hid (numF_nil 1 (by decide) (by decide))
    have Hz2 := Lib.hid (numF_ill (e := 6) (by decide) [] 4)
    have hc := HR2.out.num 1
    simp only at hc
    rw [show numF (0 : Int) [] 1 = _ from Hz1.out] at hc
    refine hc.mono ?_
    clear hc
    rintro r w3 ⟨rfl, hR, hg⟩
    have BXa := Lib.hid (BX2.out.kept hg (by simpa using hne2))
    have BRa := Lib.hid (BR2.out.kept hg (by simpa using hneR))
    have XL3 := BXa.out.look
    have XO3 := BXa.out.open
    have YL3 := BRa.out.look
    have YO3 := BRa.out.open
    obtain ⟨qa3, qn3, qc3, hqb, hqr⟩ := hR.at'
    have ZL3 := hqb.look
    have HQ3 := Lib.hid hqr.len
    have HR3 := Lib.hid (hR.set hne HLB.out 0 (.int .u8 0))
    have BX3 := Lib.hid ((BXa.out.set 0 (.int .u8 0)))
    have BR3 := Lib.hid ((BRa.out.kept (grown_setCell _ bx 0 (.int .u8 0)) (by simpa using hbw)))
    clear hR hg BXa BRa hqb hqr
    go_wp2_with fail
    have hc := HR3.out.num 4
    simp only at hc
    rw [show numF 6 [] 4 = _ from Hz2.out] at hc
    refine hc.mono ?_
    clear hc
    rintro r w4 ⟨rfl, hR, hg⟩
    have BXa := Lib.hid (BX3.out.kept hg (by simpa using hne2))
    have BRa := Lib.hid (BR3.out.kept hg (by simpa using hneR))
    clear XL3 XO3 YL3 YO3 ZL3 HQ3
    have XL4 := BXa.out.look
    have XO4 := BXa.out.open
    have YL4 := BRa.out.look
    have YO4 := BRa.out.open
    obtain ⟨qa4, qn4, qc4, hqb, hqr⟩ := hR.at'
    have ZL4 := hqb.look
    have HQ4 := Lib.hid hqr.len
    have HR4 := Lib.hid (hR.set hne HLB.out 1 (.int .u32 0))
    have BX4 := Lib.hid ((BXa.out.set 1 (.int .u32 0)))
    have BR4 := Lib.hid ((BRa.out.kept (grown_setCell _ bx 1 (.int .u32 0)) (by simpa using hbw)))
    clear hR hg BXa BRa hqb hqr
    have HGF := Lib.hid (grown_trans HGA.out HR4.out.gr)
    go_wp2_with fail
    obtain ⟨pa, pn, pc, hpb, hpr⟩ := HR4.out.at'
    have hS : (w4.setCell ⟨bx, 1, none⟩ (.int .u32 0)).drew.cell? ⟨g, 1, none⟩ = some (.int .i64 6) := hpb.look 1
    have hS9 := hS
    rw [drew_same] at hS9
    clear hpb hpr
    go_region_held_law (fun w' => w'.cell? ⟨g, 1, none⟩ = some (.int .i64 6)) (first | with_reducible assumption | (simp only [drew_same, SF _ w.heap.size g _ _ _ hneR2]; with_reducible assumption)) (fail)
    all_goals (
      go_wp2_with fail
      refine bodyPost_ret (v := .tuple #[.agg #[.int .u8 0, .int .u32 0, .int .u8 0, .slice none 0 0, .int .u8 0, .int .u8 0, .int .u8 0, .int .i64 0], .int .i64 6]) ?_ rfl ?_
      · simp only [results]
        go_simp
      · rw [HTT.out]
        have hs8 := fun W => grow8 W w.heap.size (.int .u8 0) (.int .u32 0) (.int .u8 0) (.slice none 0 0) (.int .u8 0) (.int .u8 0) (.int .u8 0) (.int .i64 0)
        refine ⟨none, 0, 0, rfl, ⟨rfl, LineList.nil _ _, by simp [maxLen]⟩, ?_⟩
        refine grown_drew ?_
        exact grown_new HGF.out (Nat.le_refl _) (hs8 _))
  · have hu := k.toNat_lt
    have hwk : IntKind.u8.wrap (k.toNat : Int) = (k.toNat : Int) := by simp [IntKind.wrap, IntKind.signed, IntKind.bits]; omega
    have hc := HR2.out.num 1
    simp only at hc
    rw [show numF (0 : Int) (k :: rs) 1 = _ from numF_cons k rs] at hc
    refine hc.mono ?_
    clear hc
    rintro r w3 ⟨rfl, hR, hg⟩
    have BXa := Lib.hid (BX2.out.kept hg (by simpa using hne2))
    have BRa := Lib.hid (BR2.out.kept hg (by simpa using hneR))
    have XL3 := BXa.out.look
    have XO3 := BXa.out.open
    have YL3 := BRa.out.look
    have YO3 := BRa.out.open
    obtain ⟨qa3, qn3, qc3, hqb, hqr⟩ := hR.at'
    have ZL3 := hqb.look
    have HQ3 := Lib.hid hqr.len
    have HR3 := Lib.hid (hR.set hne HLB.out 0 (.int .u8 (k.toNat : Int)))
    have BX3 := Lib.hid ((BXa.out.set 0 (.int .u8 (k.toNat : Int))))
    have BR3 := Lib.hid ((BRa.out.kept (grown_setCell _ bx 0 (.int .u8 (k.toNat : Int))) (by simpa using hbw)))
    clear hR hg BXa BRa hqb hqr
    by_cases hbk : k.toNat < 1 ∨ 7 < k.toNat
    · have HTT := Lib.hid (show T = (zeroQ, 8) by rw [← HT.out, decR_cons, if_pos hbk])
      have HGF := Lib.hid (grown_trans HGA.out HR3.out.gr)
      have hbk' : (k.toNat : Int) < 1 ∨ 7 < (k.toNat : Int) := by omega
      rcases hbk' with hbk' | hbk'
      all_goals (
        go_wp2_with fail
        refine bodyPost_ret (v := .tuple #[.agg #[.int .u8 0, .int .u32 0, .int .u8 0, .slice none 0 0, .int .u8 0, .int .u8 0, .int .u8 0, .int .i64 0], .int .i64 8]) ?_ rfl ?_
        · simp only [results]
          go_simp
        · rw [HTT.out]
          have hs8 := fun W => grow8 W w.heap.size (.int .u8 0) (.int .u32 0) (.int .u8 0) (.slice none 0 0) (.int .u8 0) (.int .u8 0) (.int .u8 0) (.int .i64 0)
          exact ⟨none, 0, 0, rfl, ⟨rfl, LineList.nil _ _, by simp [maxLen]⟩, grown_new HGF.out (Nat.le_refl _) (hs8 _)⟩)
    · have HTB := Lib.hid (HT.out.symm.trans (dec_body k rs hbk))
      have hb1 : (1 : Int) ≤ (k.toNat : Int) := by omega
      have hb7 : (k.toNat : Int) ≤ 7 := by omega
      have q1 : ((k.toNat : Int) == 1) = decide (k = 1) := k_eq k 1 (by decide)
      have q5 : ((k.toNat : Int) == 5) = decide (k = 5) := k_eq k 5 (by decide)
      have q6 : ((k.toNat : Int) == 6) = decide (k = 6) := k_eq k 6 (by decide)
      by_cases e1 : k = 1
      · have hq4 : (k.toNat : Int) ≤ 4 := by rw [e1]; decide
        obtain ⟨BB, hB0⟩ : ∃ B, bodyF k 0 rs = B := ⟨_, rfl⟩
        have hbd := hB0
        unfold bodyF at hbd
        rw [if_pos e1] at hbd
        have hxl := numF_lt 0 rs 4
        obtain ⟨⟨xo, y0, l0⟩, hx⟩ : ∃ t, numF (0 : Int) rs 4 = t := ⟨_, rfl⟩
        rw [show numF (0 : Int) rs ((4 : Nat) : Int) = numF (0 : Int) rs 4 from rfl, hx] at hxl
        rw [hx] at hbd
        simp only at hxl hbd
        have Hxo := Lib.hid hx
        have hwxo := u32w xo (by simpa using hxl)
        clear hx hxl
        have hxl := numF_lt y0 l0 1
        obtain ⟨⟨xp, y1, l1⟩, hx⟩ : ∃ t, numF y0 l0 1 = t := ⟨_, rfl⟩
        rw [show numF y0 l0 ((1 : Nat) : Int) = numF y0 l0 1 from rfl, hx] at hxl
        rw [hx] at hbd
        simp only at hxl hbd
        have Hxp := Lib.hid hx
        have hwxp := u8w xp (by simpa using hxl)
        clear hx hxl
        obtain ⟨⟨LL, y2, l2⟩, hx⟩ : ∃ t, linesF y1 l1 = t := ⟨_, rfl⟩
        rw [hx] at hbd
        simp only at hbd
        have HLL := Lib.hid hx
        clear hx
        rw [hB0, ← hbd] at HTB
        simp only at HTB
        have e6 : ¬ k = 6 := by rw [e1]; decide
        have e5 : ¬ k = 5 := by rw [e1]; decide
        rw [decide_eq_true e1] at q1
        rw [decide_eq_false e6] at q6
        rw [decide_eq_false e5] at q5
        clear e1 e5 e6
        clear hbd hB0
        go_wp2_with fail
        have hc := HR3.out.num 4
        simp only at hc
        rw [show numF (0 : Int) rs 4 = _ from Hxo.out] at hc
        refine hc.mono ?_
        clear hc
        rintro r w4 ⟨rfl, hR, hg⟩
        have BXa := Lib.hid (BX3.out.kept hg (by simpa using hne2))
        have BRa := Lib.hid (BR3.out.kept hg (by simpa using hneR))
        clear XL3 XO3 YL3 YO3 ZL3 HQ3
        have XL4 := BXa.out.look
        have XO4 := BXa.out.open
        have YL4 := BRa.out.look
        have YO4 := BRa.out.open
        obtain ⟨qa4, qn4, qc4, hqb, hqr⟩ := hR.at'
        have ZL4 := hqb.look
        have HQ4 := Lib.hid hqr.len
        have HR4 := Lib.hid (hR.set hne HLB.out 1 (.int .u32 (xo : Int)))
        have BX4 := Lib.hid ((BXa.out.set 1 (.int .u32 (xo : Int))))
        have BR4 := Lib.hid ((BRa.out.kept (grown_setCell _ bx 1 (.int .u32 (xo : Int))) (by simpa using hbw)))
        clear hR hg BXa BRa hqb hqr
        go_wp2_with fail
        have hc := HR4.out.num 1
        simp only at hc
        rw [show numF y0 l0 1 = _ from Hxp.out] at hc
        refine hc.mono ?_
        clear hc
        rintro r w5 ⟨rfl, hR, hg⟩
        have BXa := Lib.hid (BX4.out.kept hg (by simpa using hne2))
        have BRa := Lib.hid (BR4.out.kept hg (by simpa using hneR))
        clear XL4 XO4 YL4 YO4 ZL4 HQ4
        have XL5 := BXa.out.look
        have XO5 := BXa.out.open
        have YL5 := BRa.out.look
        have YO5 := BRa.out.open
        obtain ⟨qa5, qn5, qc5, hqb, hqr⟩ := hR.at'
        have ZL5 := hqb.look
        have HQ5 := Lib.hid hqr.len
        have HR5 := Lib.hid (hR.set hne HLB.out 2 (.int .u8 ((UInt8.ofNat xp).toNat : Int)))
        have BX5 := Lib.hid ((BXa.out.set 2 (.int .u8 ((UInt8.ofNat xp).toNat : Int))))
        have BR5 := Lib.hid ((BRa.out.kept (grown_setCell _ bx 2 (.int .u8 ((UInt8.ofNat xp).toNat : Int))) (by simpa using hbw)))
        clear hR hg BXa BRa hqb hqr
        go_wp2_with fail
        have hc := HR5.out.lines
        simp only at hc
        rw [show linesF y1 l1 = _ from HLL.out] at hc
        refine hc.mono ?_
        clear hc
        rintro r w6 ⟨la, lm, lc, rfl, hll, hlm, hlx, hlf, hR, hg⟩
        have hfar : ∀ ad, la = some ad → ad.block ≠ bx ∧ ad.block ≠ w.heap.size := fun ad h => by have h1 := hlf ad h; have h2 := BX5.out.lt; have h3 := BR5.out.lt; omega
        have HLM := Lib.hid hlm; have HLX := Lib.hid hlx; have HLF := Lib.hid hfar
        have HLN := Lib.hid (hll.keptX (grown_setCell _ bx 3 (.slice la lm lc)) (fun ad h => (hfar ad h).1))
        clear hll hlm hlx hlf hfar
        have BXa := Lib.hid (BX5.out.kept hg (by simpa using hne2))
        have BRa := Lib.hid (BR5.out.kept hg (by simpa using hneR))
        clear XL5 XO5 YL5 YO5 ZL5 HQ5
        have XL6 := BXa.out.look
        have XO6 := BXa.out.open
        have YL6 := BRa.out.look
        have YO6 := BRa.out.open
        obtain ⟨qa6, qn6, qc6, hqb, hqr⟩ := hR.at'
        have ZL6 := hqb.look
        have HQ6 := Lib.hid hqr.len
        have HR6 := Lib.hid (hR.set hne HLB.out 3 (.slice la lm lc))
        have BX6 := Lib.hid ((BXa.out.set 3 (.slice la lm lc)))
        have BR6 := Lib.hid ((BRa.out.kept (grown_setCell _ bx 3 (.slice la lm lc)) (by simpa using hbw)))
        clear hR hg BXa BRa hqb hqr
        have HGF := Lib.hid (grown_trans HGA.out HR6.out.gr)
        by_cases he : y2 = 0
        · subst he
          by_cases hl : l2 = []
          · have HTT := Lib.hid (show T = (⟨k, xo, UInt8.ofNat xp, LL, 0, 0, 0, 0⟩, 0) from by rw [HTB.out, if_neg (by simp), if_neg (by simpa using hl)])
            obtain rfl : qn6 = 0 := by rw [← HQ6.out, hl]; rfl
            clear hl
            go_wp2_with fail
            refine bodyPost_ret (v := .tuple #[.agg #[.int .u8 (k.toNat : Int), .int .u32 (xo : Int), .int .u8 ((UInt8.ofNat xp).toNat : Int), .slice la lm lc, .int .u8 0, .int .u8 0, .int .u8 0, .int .i64 0], .int .i64 0]) ?_ rfl ?_
            · simp only [results]
              go_simp
            · rw [HTT.out]
              have hs8 := fun W => grow8 W w.heap.size (.int .u8 (k.toNat : Int)) (.int .u32 (xo : Int)) (.int .u8 ((UInt8.ofNat xp).toNat : Int)) (.slice la lm lc) (.int .u8 0) (.int .u8 0) (.int .u8 0) (.int .i64 0)
              refine ⟨_, _, _, rfl, ⟨HLM.out, HLN.out.keptX (hs8 _) (fun ad h => (HLF.out ad h).2), HLX.out⟩, ?_⟩
              exact grown_new HGF.out (Nat.le_refl _) (hs8 _)
          · have HTT := Lib.hid (show T = (zeroQ, 8) from by rw [HTB.out, if_neg (by simp), if_pos hl])
            have hq0 : (0 : Int) < (qn6 : Int) := by have := HQ6.out; have := List.length_pos_iff.2 hl; simp only at *; omega
            clear hl
            go_wp2_with fail
            refine bodyPost_ret (v := .tuple #[.agg #[.int .u8 0, .int .u32 0, .int .u8 0, .slice none 0 0, .int .u8 0, .int .u8 0, .int .u8 0, .int .i64 0], .int .i64 8]) ?_ rfl ?_
            · simp only [results]
              go_simp
            · rw [HTT.out]
              have hs8 := fun W => grow8 W w.heap.size (.int .u8 0) (.int .u32 0) (.int .u8 0) (.slice none 0 0) (.int .u8 0) (.int .u8 0) (.int .u8 0) (.int .i64 0)
              refine ⟨none, 0, 0, rfl, ⟨rfl, LineList.nil _ _, by simp [maxLen]⟩, ?_⟩
              exact grown_new HGF.out (Nat.le_refl _) (hs8 _)
        · have HTT := Lib.hid (show T = (zeroQ, y2) from by rw [HTB.out, if_pos he])
          have h1 : (y2 == 0) = false := by simpa using he
          have h2 : (y2 != 0) = true := by simpa using he
          clear he
          go_wp2_with fail
          obtain ⟨pa, pn, pc, hpb, hpr⟩ := HR6.out.at'
          have hS : (w6.setCell ⟨bx, 3, none⟩ (.slice la lm lc)).drew.cell? ⟨g, 1, none⟩ = some (.int .i64 y2) := hpb.look 1
          have hS9 := hS
          rw [drew_same] at hS9
          clear hpb hpr
          go_region_held_law (fun w' => w'.cell? ⟨g, 1, none⟩ = some (.int .i64 y2)) (first | with_reducible assumption | (simp only [drew_same, SF _ w.heap.size g _ _ _ hneR2]; with_reducible assumption)) (fail)
          all_goals (
            go_wp2_with fail
            refine bodyPost_ret (v := .tuple #[.agg #[.int .u8 0, .int .u32 0, .int .u8 0, .slice none 0 0, .int .u8 0, .int .u8 0, .int .u8 0, .int .i64 0], .int .i64 y2]) ?_ rfl ?_
            · simp only [results]
              go_simp
            · rw [HTT.out]
              have hs8 := fun W => grow8 W w.heap.size (.int .u8 0) (.int .u32 0) (.int .u8 0) (.slice none 0 0) (.int .u8 0) (.int .u8 0) (.int .u8 0) (.int .i64 0)
              refine ⟨none, 0, 0, rfl, ⟨rfl, LineList.nil _ _, by simp [maxLen]⟩, ?_⟩
              refine grown_drew ?_
              exact grown_new HGF.out (Nat.le_refl _) (hs8 _))
      · rw [decide_eq_false e1] at q1
        by_cases hk4 : k.toNat ≤ 4
        · have hq4 : (k.toNat : Int) ≤ 4 := by omega
          obtain ⟨BB, hB0⟩ : ∃ B, bodyF k 0 rs = B := ⟨_, rfl⟩
          have hbd := hB0
          unfold bodyF at hbd
          rw [if_neg e1, if_pos hk4] at hbd
          have hxl := numF_lt 0 rs 4
          obtain ⟨⟨xo, y0, l0⟩, hx⟩ : ∃ t, numF (0 : Int) rs 4 = t := ⟨_, rfl⟩
          rw [show numF (0 : Int) rs ((4 : Nat) : Int) = numF (0 : Int) rs 4 from rfl, hx] at hxl
          rw [hx] at hbd
          simp only at hxl hbd
          have Hxo := Lib.hid hx
          have hwxo := u32w xo (by simpa using hxl)
          clear hx hxl
          rw [hB0, ← hbd] at HTB
          simp only at HTB
          have e6 : ¬ k = 6 := by intro h; rw [h] at hk4; exact absurd hk4 (by decide)
          have e5 : ¬ k = 5 := by intro h; rw [h] at hk4; exact absurd hk4 (by decide)
          rw [decide_eq_false e6] at q6
          rw [decide_eq_false e5] at q5
          clear e1 e5 e6 hk4
          clear hbd hB0
          go_wp2_with fail
          have hc := HR3.out.num 4
          simp only at hc
          rw [show numF (0 : Int) rs 4 = _ from Hxo.out] at hc
          refine hc.mono ?_
          clear hc
          rintro r w4 ⟨rfl, hR, hg⟩
          have BXa := Lib.hid (BX3.out.kept hg (by simpa using hne2))
          have BRa := Lib.hid (BR3.out.kept hg (by simpa using hneR))
          clear XL3 XO3 YL3 YO3 ZL3 HQ3
          have XL4 := BXa.out.look
          have XO4 := BXa.out.open
          have YL4 := BRa.out.look
          have YO4 := BRa.out.open
          obtain ⟨qa4, qn4, qc4, hqb, hqr⟩ := hR.at'
          have ZL4 := hqb.look
          have HQ4 := Lib.hid hqr.len
          have HR4 := Lib.hid (hR.set hne HLB.out 1 (.int .u32 (xo : Int)))
          have BX4 := Lib.hid ((BXa.out.set 1 (.int .u32 (xo : Int))))
          have BR4 := Lib.hid ((BRa.out.kept (grown_setCell _ bx 1 (.int .u32 (xo : Int))) (by simpa using hbw)))
          clear hR hg BXa BRa hqb hqr
          have HGF := Lib.hid (grown_trans HGA.out HR4.out.gr)
          by_cases he : y0 = 0
          · subst he
            by_cases hl : l0 = []
            · have HTT := Lib.hid (show T = (⟨k, xo, 0, [], 0, 0, 0, 0⟩, 0) from by rw [HTB.out, if_neg (by simp), if_neg (by simpa using hl)])
              obtain rfl : qn4 = 0 := by rw [← HQ4.out, hl]; rfl
              clear hl
              go_wp2_with fail
              refine bodyPost_ret (v := .tuple #[.agg #[.int .u8 (k.toNat : Int), .int .u32 (xo : Int), .int .u8 0, .slice none 0 0, .int .u8 0, .int .u8 0, .int .u8 0, .int .i64 0], .int .i64 0]) ?_ rfl ?_
              · simp only [results]
                go_simp
              · rw [HTT.out]
                have hs8 := fun W => grow8 W w.heap.size (.int .u8 (k.toNat : Int)) (.int .u32 (xo : Int)) (.int .u8 0) (.slice none 0 0) (.int .u8 0) (.int .u8 0) (.int .u8 0) (.int .i64 0)
                refine ⟨none, 0, 0, rfl, ⟨rfl, LineList.nil _ _, by simp [maxLen]⟩, ?_⟩
                exact grown_new HGF.out (Nat.le_refl _) (hs8 _)
            · have HTT := Lib.hid (show T = (zeroQ, 8) from by rw [HTB.out, if_neg (by simp), if_pos hl])
              have hq0 : (0 : Int) < (qn4 : Int) := by have := HQ4.out; have := List.length_pos_iff.2 hl; simp only at *; omega
              clear hl
              go_wp2_with fail
              refine bodyPost_ret (v := .tuple #[.agg #[.int .u8 0, .int .u32 0, .int .u8 0, .slice none 0 0, .int .u8 0, .int .u8 0, .int .u8 0, .int .i64 0], .int .i64 8]) ?_ rfl ?_
              · simp only [results]
                go_simp
              · rw [HTT.out]
                have hs8 := fun W => grow8 W w.heap.size (.int .u8 0) (.int .u32 0) (.int .u8 0) (.slice none 0 0) (.int .u8 0) (.int .u8 0) (.int .u8 0) (.int .i64 0)
                refine ⟨none, 0, 0, rfl, ⟨rfl, LineList.nil _ _, by simp [maxLen]⟩, ?_⟩
                exact grown_new HGF.out (Nat.le_refl _) (hs8 _)
          · have HTT := Lib.hid (show T = (zeroQ, y0) from by rw [HTB.out, if_pos he])
            have h1 : (y0 == 0) = false := by simpa using he
            have h2 : (y0 != 0) = true := by simpa using he
            clear he
            go_wp2_with fail
            obtain ⟨pa, pn, pc, hpb, hpr⟩ := HR4.out.at'
            have hS : (w4.setCell ⟨bx, 1, none⟩ (.int .u32 (xo : Int))).drew.cell? ⟨g, 1, none⟩ = some (.int .i64 y0) := hpb.look 1
            have hS9 := hS
            rw [drew_same] at hS9
            clear hpb hpr
            go_region_held_law (fun w' => w'.cell? ⟨g, 1, none⟩ = some (.int .i64 y0)) (first | with_reducible assumption | (simp only [drew_same, SF _ w.heap.size g _ _ _ hneR2]; with_reducible assumption)) (fail)
            all_goals (
              go_wp2_with fail
              refine bodyPost_ret (v := .tuple #[.agg #[.int .u8 0, .int .u32 0, .int .u8 0, .slice none 0 0, .int .u8 0, .int .u8 0, .int .u8 0, .int .i64 0], .int .i64 y0]) ?_ rfl ?_
              · simp only [results]
                go_simp
              · rw [HTT.out]
                have hs8 := fun W => grow8 W w.heap.size (.int .u8 0) (.int .u32 0) (.int .u8 0) (.slice none 0 0) (.int .u8 0) (.int .u8 0) (.int .u8 0) (.int .i64 0)
                refine ⟨none, 0, 0, rfl, ⟨rfl, LineList.nil _ _, by simp [maxLen]⟩, ?_⟩
                refine grown_drew ?_
                exact grown_new HGF.out (Nat.le_refl _) (hs8 _))
        · have hq4 : ¬ (k.toNat : Int) ≤ 4 := by omega
          have hq5 : (5 : Int) ≤ (k.toNat : Int) := by omega
          by_cases e5 : k = 5
          · have hq6 : ¬ k = 6 := by rw [e5]; decide
            obtain ⟨BB, hB0⟩ : ∃ B, bodyF k 0 rs = B := ⟨_, rfl⟩
            have hbd := hB0
            unfold bodyF at hbd
            rw [if_neg e1, if_neg hk4, if_pos e5] at hbd
            have hxl := numF_lt 0 rs 1
            obtain ⟨⟨xs, y0, l0⟩, hx⟩ : ∃ t, numF (0 : Int) rs 1 = t := ⟨_, rfl⟩
            rw [show numF (0 : Int) rs ((1 : Nat) : Int) = numF (0 : Int) rs 1 from rfl, hx] at hxl
            rw [hx] at hbd
            simp only at hxl hbd
            have Hxs := Lib.hid hx
            have hwxs := u8w xs (by simpa using hxl)
            clear hx hxl
            have hxl := numF_lt y0 l0 1
            obtain ⟨⟨xt, y1, l1⟩, hx⟩ : ∃ t, numF y0 l0 1 = t := ⟨_, rfl⟩
            rw [show numF y0 l0 ((1 : Nat) : Int) = numF y0 l0 1 from rfl, hx] at hxl
            rw [hx] at hbd
            simp only at hxl hbd
            have Hxt := Lib.hid hx
            have hwxt := u8w xt (by simpa using hxl)
            clear hx hxl
            have hxl := numF_lt y1 l1 8
            obtain ⟨⟨xq, y2, l2⟩, hx⟩ : ∃ t, numF y1 l1 8 = t := ⟨_, rfl⟩
            rw [show numF y1 l1 ((8 : Nat) : Int) = numF y1 l1 8 from rfl, hx] at hxl
            rw [hx] at hbd
            simp only at hxl hbd
            have Hxq := Lib.hid hx
            obtain ⟨qq, hqq⟩ : ∃ q, wrap64 (xq : Int) = q := ⟨_, rfl⟩
            rw [hqq] at hbd
            have HQQ := Lib.hid hqq
            clear hqq
            clear hx hxl
            rw [hB0, ← hbd] at HTB
            simp only at HTB
            rw [decide_eq_true e5] at q5
            rw [decide_eq_false hq6] at q6
            clear e1 hk4 e5 hq6
            clear hbd hB0
            go_wp2_with fail
            have hc := HR3.out.num 1
            simp only at hc
            rw [show numF (0 : Int) rs 1 = _ from Hxs.out] at hc
            refine hc.mono ?_
            clear hc
            rintro r w4 ⟨rfl, hR, hg⟩
            have BXa := Lib.hid (BX3.out.kept hg (by simpa using hne2))
            have BRa := Lib.hid (BR3.out.kept hg (by simpa using hneR))
            clear XL3 XO3 YL3 YO3 ZL3 HQ3
            have XL4 := BXa.out.look
            have XO4 := BXa.out.open
            have YL4 := BRa.out.look
            have YO4 := BRa.out.open
            obtain ⟨qa4, qn4, qc4, hqb, hqr⟩ := hR.at'
            have ZL4 := hqb.look
            have HQ4 := Lib.hid hqr.len
            have HR4 := Lib.hid (hR.set hne HLB.out 4 (.int .u8 ((UInt8.ofNat xs).toNat : Int)))
            have BX4 := Lib.hid ((BXa.out.set 4 (.int .u8 ((UInt8.ofNat xs).toNat : Int))))
            have BR4 := Lib.hid ((BRa.out.kept (grown_setCell _ bx 4 (.int .u8 ((UInt8.ofNat xs).toNat : Int))) (by simpa using hbw)))
            clear hR hg BXa BRa hqb hqr
            go_wp2_with fail
            have hc := HR4.out.num 1
            simp only at hc
            rw [show numF y0 l0 1 = _ from Hxt.out] at hc
            refine hc.mono ?_
            clear hc
            rintro r w5 ⟨rfl, hR, hg⟩
            have BXa := Lib.hid (BX4.out.kept hg (by simpa using hne2))
            have BRa := Lib.hid (BR4.out.kept hg (by simpa using hneR))
            clear XL4 XO4 YL4 YO4 ZL4 HQ4
            have XL5 := BXa.out.look
            have XO5 := BXa.out.open
            have YL5 := BRa.out.look
            have YO5 := BRa.out.open
            obtain ⟨qa5, qn5, qc5, hqb, hqr⟩ := hR.at'
            have ZL5 := hqb.look
            have HQ5 := Lib.hid hqr.len
            have HR5 := Lib.hid (hR.set hne HLB.out 6 (.int .u8 ((UInt8.ofNat xt).toNat : Int)))
            have BX5 := Lib.hid ((BXa.out.set 6 (.int .u8 ((UInt8.ofNat xt).toNat : Int))))
            have BR5 := Lib.hid ((BRa.out.kept (grown_setCell _ bx 6 (.int .u8 ((UInt8.ofNat xt).toNat : Int))) (by simpa using hbw)))
            clear hR hg BXa BRa hqb hqr
            go_wp2_with fail
            have hc := HR5.out.int
            simp only at hc
            rw [show numF y1 l1 8 = _ from Hxq.out] at hc
            simp only at hc
            rw [HQQ.out] at hc
            refine hc.mono ?_
            clear hc
            rintro r w6 ⟨rfl, hR, hg⟩
            have BXa := Lib.hid (BX5.out.kept hg (by simpa using hne2))
            have BRa := Lib.hid (BR5.out.kept hg (by simpa using hneR))
            clear XL5 XO5 YL5 YO5 ZL5 HQ5
            have XL6 := BXa.out.look
            have XO6 := BXa.out.open
            have YL6 := BRa.out.look
            have YO6 := BRa.out.open
            obtain ⟨qa6, qn6, qc6, hqb, hqr⟩ := hR.at'
            have ZL6 := hqb.look
            have HQ6 := Lib.hid hqr.len
            have HR6 := Lib.hid (hR.set hne HLB.out 7 (.int .i64 qq))
            have BX6 := Lib.hid ((BXa.out.set 7 (.int .i64 qq)))
            have BR6 := Lib.hid ((BRa.out.kept (grown_setCell _ bx 7 (.int .i64 qq)) (by simpa using hbw)))
            clear hR hg BXa BRa hqb hqr
            have HGF := Lib.hid (grown_trans HGA.out HR6.out.gr)
            by_cases he : y2 = 0
            · subst he
              by_cases hl : l2 = []
              · have HTT := Lib.hid (show T = (⟨k, 0, 0, [], UInt8.ofNat xs, 0, UInt8.ofNat xt, qq⟩, 0) from by rw [HTB.out, if_neg (by simp), if_neg (by simpa using hl)])
                obtain rfl : qn6 = 0 := by rw [← HQ6.out, hl]; rfl
                clear hl
                go_wp2_with fail
                refine bodyPost_ret (v := .tuple #[.agg #[.int .u8 (k.toNat : Int), .int .u32 0, .int .u8 0, .slice none 0 0, .int .u8 ((UInt8.ofNat xs).toNat : Int), .int .u8 0, .int .u8 ((UInt8.ofNat xt).toNat : Int), .int .i64 qq], .int .i64 0]) ?_ rfl ?_
                · simp only [results]
                  go_simp
                · rw [HTT.out]
                  have hs8 := fun W => grow8 W w.heap.size (.int .u8 (k.toNat : Int)) (.int .u32 0) (.int .u8 0) (.slice none 0 0) (.int .u8 ((UInt8.ofNat xs).toNat : Int)) (.int .u8 0) (.int .u8 ((UInt8.ofNat xt).toNat : Int)) (.int .i64 qq)
                  refine ⟨none, 0, 0, rfl, ⟨rfl, LineList.nil _ _, by simp [maxLen]⟩, ?_⟩
                  exact grown_new HGF.out (Nat.le_refl _) (hs8 _)
              · have HTT := Lib.hid (show T = (zeroQ, 8) from by rw [HTB.out, if_neg (by simp), if_pos hl])
                have hq0 : (0 : Int) < (qn6 : Int) := by have := HQ6.out; have := List.length_pos_iff.2 hl; simp only at *; omega
                clear hl
                go_wp2_with fail
                refine bodyPost_ret (v := .tuple #[.agg #[.int .u8 0, .int .u32 0, .int .u8 0, .slice none 0 0, .int .u8 0, .int .u8 0, .int .u8 0, .int .i64 0], .int .i64 8]) ?_ rfl ?_
                · simp only [results]
                  go_simp
                · rw [HTT.out]
                  have hs8 := fun W => grow8 W w.heap.size (.int .u8 0) (.int .u32 0) (.int .u8 0) (.slice none 0 0) (.int .u8 0) (.int .u8 0) (.int .u8 0) (.int .i64 0)
                  refine ⟨none, 0, 0, rfl, ⟨rfl, LineList.nil _ _, by simp [maxLen]⟩, ?_⟩
                  exact grown_new HGF.out (Nat.le_refl _) (hs8 _)
            · have HTT := Lib.hid (show T = (zeroQ, y2) from by rw [HTB.out, if_pos he])
              have h1 : (y2 == 0) = false := by simpa using he
              have h2 : (y2 != 0) = true := by simpa using he
              clear he
              go_wp2_with fail
              obtain ⟨pa, pn, pc, hpb, hpr⟩ := HR6.out.at'
              have hS : (w6.setCell ⟨bx, 7, none⟩ (.int .i64 qq)).drew.cell? ⟨g, 1, none⟩ = some (.int .i64 y2) := hpb.look 1
              have hS9 := hS
              rw [drew_same] at hS9
              clear hpb hpr
              go_region_held_law (fun w' => w'.cell? ⟨g, 1, none⟩ = some (.int .i64 y2)) (first | with_reducible assumption | (simp only [drew_same, SF _ w.heap.size g _ _ _ hneR2]; with_reducible assumption)) (fail)
              all_goals (
                go_wp2_with fail
                refine bodyPost_ret (v := .tuple #[.agg #[.int .u8 0, .int .u32 0, .int .u8 0, .slice none 0 0, .int .u8 0, .int .u8 0, .int .u8 0, .int .i64 0], .int .i64 y2]) ?_ rfl ?_
                · simp only [results]
                  go_simp
                · rw [HTT.out]
                  have hs8 := fun W => grow8 W w.heap.size (.int .u8 0) (.int .u32 0) (.int .u8 0) (.slice none 0 0) (.int .u8 0) (.int .u8 0) (.int .u8 0) (.int .i64 0)
                  refine ⟨none, 0, 0, rfl, ⟨rfl, LineList.nil _ _, by simp [maxLen]⟩, ?_⟩
                  refine grown_drew ?_
                  exact grown_new HGF.out (Nat.le_refl _) (hs8 _))
          · rw [decide_eq_false e5] at q5
            by_cases e6 : k = 6
            · skip
              obtain ⟨BB, hB0⟩ : ∃ B, bodyF k 0 rs = B := ⟨_, rfl⟩
              have hbd := hB0
              unfold bodyF at hbd
              rw [if_neg e1, if_neg hk4, if_neg e5, if_pos e6] at hbd
              have hxl := numF_lt 0 rs 1
              obtain ⟨⟨xs, y0, l0⟩, hx⟩ : ∃ t, numF (0 : Int) rs 1 = t := ⟨_, rfl⟩
              rw [show numF (0 : Int) rs ((1 : Nat) : Int) = numF (0 : Int) rs 1 from rfl, hx] at hxl
              rw [hx] at hbd
              simp only at hxl hbd
              have Hxs := Lib.hid hx
              have hwxs := u8w xs (by simpa using hxl)
              clear hx hxl
              have hxl := numF_lt y0 l0 1
              obtain ⟨⟨xf, y1, l1⟩, hx⟩ : ∃ t, numF y0 l0 1 = t := ⟨_, rfl⟩
              rw [show numF y0 l0 ((1 : Nat) : Int) = numF y0 l0 1 from rfl, hx] at hxl
              rw [hx] at hbd
              simp only at hxl hbd
              have Hxf := Lib.hid hx
              have hwxf := u8w xf (by simpa using hxl)
              clear hx hxl
              have hxl := numF_lt y1 l1 1
              obtain ⟨⟨xt, y2, l2⟩, hx⟩ : ∃ t, numF y1 l1 1 = t := ⟨_, rfl⟩
              rw [show numF y1 l1 ((1 : Nat) : Int) = numF y1 l1 1 from rfl, hx] at hxl
              rw [hx] at hbd
              simp only at hxl hbd
              have Hxt := Lib.hid hx
              have hwxt := u8w xt (by simpa using hxl)
              clear hx hxl
              have hxl := numF_lt y2 l2 8
              obtain ⟨⟨xq, y3, l3⟩, hx⟩ : ∃ t, numF y2 l2 8 = t := ⟨_, rfl⟩
              rw [show numF y2 l2 ((8 : Nat) : Int) = numF y2 l2 8 from rfl, hx] at hxl
              rw [hx] at hbd
              simp only at hxl hbd
              have Hxq := Lib.hid hx
              obtain ⟨qq, hqq⟩ : ∃ q, wrap64 (xq : Int) = q := ⟨_, rfl⟩
              rw [hqq] at hbd
              have HQQ := Lib.hid hqq
              clear hqq
              clear hx hxl
              rw [hB0, ← hbd] at HTB
              simp only at HTB
              rw [decide_eq_true e6] at q6
              clear e1 hk4 e5 e6
              clear hbd hB0
              go_wp2_with fail
              have hc := HR3.out.num 1
              simp only at hc
              rw [show numF (0 : Int) rs 1 = _ from Hxs.out] at hc
              refine hc.mono ?_
              clear hc
              rintro r w4 ⟨rfl, hR, hg⟩
              have BXa := Lib.hid (BX3.out.kept hg (by simpa using hne2))
              have BRa := Lib.hid (BR3.out.kept hg (by simpa using hneR))
              clear XL3 XO3 YL3 YO3 ZL3 HQ3
              have XL4 := BXa.out.look
              have XO4 := BXa.out.open
              have YL4 := BRa.out.look
              have YO4 := BRa.out.open
              obtain ⟨qa4, qn4, qc4, hqb, hqr⟩ := hR.at'
              have ZL4 := hqb.look
              have HQ4 := Lib.hid hqr.len
              have HR4 := Lib.hid (hR.set hne HLB.out 4 (.int .u8 ((UInt8.ofNat xs).toNat : Int)))
              have BX4 := Lib.hid ((BXa.out.set 4 (.int .u8 ((UInt8.ofNat xs).toNat : Int))))
              have BR4 := Lib.hid ((BRa.out.kept (grown_setCell _ bx 4 (.int .u8 ((UInt8.ofNat xs).toNat : Int))) (by simpa using hbw)))
              clear hR hg BXa BRa hqb hqr
              go_wp2_with fail
              have hc := HR4.out.num 1
              simp only at hc
              rw [show numF y0 l0 1 = _ from Hxf.out] at hc
              refine hc.mono ?_
              clear hc
              rintro r w5 ⟨rfl, hR, hg⟩
              have BXa := Lib.hid (BX4.out.kept hg (by simpa using hne2))
              have BRa := Lib.hid (BR4.out.kept hg (by simpa using hneR))
              clear XL4 XO4 YL4 YO4 ZL4 HQ4
              have XL5 := BXa.out.look
              have XO5 := BXa.out.open
              have YL5 := BRa.out.look
              have YO5 := BRa.out.open
              obtain ⟨qa5, qn5, qc5, hqb, hqr⟩ := hR.at'
              have ZL5 := hqb.look
              have HQ5 := Lib.hid hqr.len
              have HR5 := Lib.hid (hR.set hne HLB.out 5 (.int .u8 ((UInt8.ofNat xf).toNat : Int)))
              have BX5 := Lib.hid ((BXa.out.set 5 (.int .u8 ((UInt8.ofNat xf).toNat : Int))))
              have BR5 := Lib.hid ((BRa.out.kept (grown_setCell _ bx 5 (.int .u8 ((UInt8.ofNat xf).toNat : Int))) (by simpa using hbw)))
              clear hR hg BXa BRa hqb hqr
              go_wp2_with fail
              have hc := HR5.out.num 1
              simp only at hc
              rw [show numF y1 l1 1 = _ from Hxt.out] at hc
              refine hc.mono ?_
              clear hc
              rintro r w6 ⟨rfl, hR, hg⟩
              have BXa := Lib.hid (BX5.out.kept hg (by simpa using hne2))
              have BRa := Lib.hid (BR5.out.kept hg (by simpa using hneR))
              clear XL5 XO5 YL5 YO5 ZL5 HQ5
              have XL6 := BXa.out.look
              have XO6 := BXa.out.open
              have YL6 := BRa.out.look
              have YO6 := BRa.out.open
              obtain ⟨qa6, qn6, qc6, hqb, hqr⟩ := hR.at'
              have ZL6 := hqb.look
              have HQ6 := Lib.hid hqr.len
              have HR6 := Lib.hid (hR.set hne HLB.out 6 (.int .u8 ((UInt8.ofNat xt).toNat : Int)))
              have BX6 := Lib.hid ((BXa.out.set 6 (.int .u8 ((UInt8.ofNat xt).toNat : Int))))
              have BR6 := Lib.hid ((BRa.out.kept (grown_setCell _ bx 6 (.int .u8 ((UInt8.ofNat xt).toNat : Int))) (by simpa using hbw)))
              clear hR hg BXa BRa hqb hqr
              go_wp2_with fail
              have hc := HR6.out.int
              simp only at hc
              rw [show numF y2 l2 8 = _ from Hxq.out] at hc
              simp only at hc
              rw [HQQ.out] at hc
              refine hc.mono ?_
              clear hc
              rintro r w7 ⟨rfl, hR, hg⟩
              have BXa := Lib.hid (BX6.out.kept hg (by simpa using hne2))
              have BRa := Lib.hid (BR6.out.kept hg (by simpa using hneR))
              clear XL6 XO6 YL6 YO6 ZL6 HQ6
              have XL7 := BXa.out.look
              have XO7 := BXa.out.open
              have YL7 := BRa.out.look
              have YO7 := BRa.out.open
              obtain ⟨qa7, qn7, qc7, hqb, hqr⟩ := hR.at'
              have ZL7 := hqb.look
              have HQ7 := Lib.hid hqr.len
              have HR7 := Lib.hid (hR.set hne HLB.out 7 (.int .i64 qq))
              have BX7 := Lib.hid ((BXa.out.set 7 (.int .i64 qq)))
              have BR7 := Lib.hid ((BRa.out.kept (grown_setCell _ bx 7 (.int .i64 qq)) (by simpa using hbw)))
              clear hR hg BXa BRa hqb hqr
              have HGF := Lib.hid (grown_trans HGA.out HR7.out.gr)
              by_cases he : y3 = 0
              · subst he
                by_cases hl : l3 = []
                · have HTT := Lib.hid (show T = (⟨k, 0, 0, [], UInt8.ofNat xs, UInt8.ofNat xf, UInt8.ofNat xt, qq⟩, 0) from by rw [HTB.out, if_neg (by simp), if_neg (by simpa using hl)])
                  obtain rfl : qn7 = 0 := by rw [← HQ7.out, hl]; rfl
                  clear hl
                  go_wp2_with fail
                  refine bodyPost_ret (v := .tuple #[.agg #[.int .u8 (k.toNat : Int), .int .u32 0, .int .u8 0, .slice none 0 0, .int .u8 ((UInt8.ofNat xs).toNat : Int), .int .u8 ((UInt8.ofNat xf).toNat : Int), .int .u8 ((UInt8.ofNat xt).toNat : Int), .int .i64 qq], .int .i64 0]) ?_ rfl ?_
                  · simp only [results]
                    go_simp
                  · rw [HTT.out]
                    have hs8 := fun W => grow8 W w.heap.size (.int .u8 (k.toNat : Int)) (.int .u32 0) (.int .u8 0) (.slice none 0 0) (.int .u8 ((UInt8.ofNat xs).toNat : Int)) (.int .u8 ((UInt8.ofNat xf).toNat : Int)) (.int .u8 ((UInt8.ofNat xt).toNat : Int)) (.int .i64 qq)
                    refine ⟨none, 0, 0, rfl, ⟨rfl, LineList.nil _ _, by simp [maxLen]⟩, ?_⟩
                    exact grown_new HGF.out (Nat.le_refl _) (hs8 _)
                · have HTT := Lib.hid (show T = (zeroQ, 8) from by rw [HTB.out, if_neg (by simp), if_pos hl])
                  have hq0 : (0 : Int) < (qn7 : Int) := by have := HQ7.out; have := List.length_pos_iff.2 hl; simp only at *; omega
                  clear hl
                  go_wp2_with fail
                  refine bodyPost_ret (v := .tuple #[.agg #[.int .u8 0, .int .u32 0, .int .u8 0, .slice none 0 0, .int .u8 0, .int .u8 0, .int .u8 0, .int .i64 0], .int .i64 8]) ?_ rfl ?_
                  · simp only [results]
                    go_simp
                  · rw [HTT.out]
                    have hs8 := fun W => grow8 W w.heap.size (.int .u8 0) (.int .u32 0) (.int .u8 0) (.slice none 0 0) (.int .u8 0) (.int .u8 0) (.int .u8 0) (.int .i64 0)
                    refine ⟨none, 0, 0, rfl, ⟨rfl, LineList.nil _ _, by simp [maxLen]⟩, ?_⟩
                    exact grown_new HGF.out (Nat.le_refl _) (hs8 _)
              · have HTT := Lib.hid (show T = (zeroQ, y3) from by rw [HTB.out, if_pos he])
                have h1 : (y3 == 0) = false := by simpa using he
                have h2 : (y3 != 0) = true := by simpa using he
                clear he
                go_wp2_with fail
                obtain ⟨pa, pn, pc, hpb, hpr⟩ := HR7.out.at'
                have hS : (w7.setCell ⟨bx, 7, none⟩ (.int .i64 qq)).drew.cell? ⟨g, 1, none⟩ = some (.int .i64 y3) := hpb.look 1
                have hS9 := hS
                rw [drew_same] at hS9
                clear hpb hpr
                go_region_held_law (fun w' => w'.cell? ⟨g, 1, none⟩ = some (.int .i64 y3)) (first | with_reducible assumption | (simp only [drew_same, SF _ w.heap.size g _ _ _ hneR2]; with_reducible assumption)) (fail)
                all_goals (
                  go_wp2_with fail
                  refine bodyPost_ret (v := .tuple #[.agg #[.int .u8 0, .int .u32 0, .int .u8 0, .slice none 0 0, .int .u8 0, .int .u8 0, .int .u8 0, .int .i64 0], .int .i64 y3]) ?_ rfl ?_
                  · simp only [results]
                    go_simp
                  · rw [HTT.out]
                    have hs8 := fun W => grow8 W w.heap.size (.int .u8 0) (.int .u32 0) (.int .u8 0) (.slice none 0 0) (.int .u8 0) (.int .u8 0) (.int .u8 0) (.int .i64 0)
                    refine ⟨none, 0, 0, rfl, ⟨rfl, LineList.nil _ _, by simp [maxLen]⟩, ?_⟩
                    refine grown_drew ?_
                    exact grown_new HGF.out (Nat.le_refl _) (hs8 _))
            · skip
              obtain ⟨BB, hB0⟩ : ∃ B, bodyF k 0 rs = B := ⟨_, rfl⟩
              have hbd := hB0
              unfold bodyF at hbd
              rw [if_neg e1, if_neg hk4, if_neg e5, if_neg e6] at hbd
              have hxl := numF_lt 0 rs 1
              obtain ⟨⟨xs, y0, l0⟩, hx⟩ : ∃ t, numF (0 : Int) rs 1 = t := ⟨_, rfl⟩
              rw [show numF (0 : Int) rs ((1 : Nat) : Int) = numF (0 : Int) rs 1 from rfl, hx] at hxl
              rw [hx] at hbd
              simp only at hxl hbd
              have Hxs := Lib.hid hx
              have hwxs := u8w xs (by simpa using hxl)
              clear hx hxl
              rw [hB0, ← hbd] at HTB
              simp only at HTB
              rw [decide_eq_false e6] at q6
              clear e1 hk4 e5 e6
              clear hbd hB0
              go_wp2_with fail
              have hc := HR3.out.num 1
              simp only at hc
              rw [show numF (0 : Int) rs 1 = _ from Hxs.out] at hc
              refine hc.mono ?_
              clear hc
              rintro r w4 ⟨rfl, hR, hg⟩
              have BXa := Lib.hid (BX3.out.kept hg (by simpa using hne2))
              have BRa := Lib.hid (BR3.out.kept hg (by simpa using hneR))
              clear XL3 XO3 YL3 YO3 ZL3 HQ3
              have XL4 := BXa.out.look
              have XO4 := BXa.out.open
              have YL4 := BRa.out.look
              have YO4 := BRa.out.open
              obtain ⟨qa4, qn4, qc4, hqb, hqr⟩ := hR.at'
              have ZL4 := hqb.look
              have HQ4 := Lib.hid hqr.len
              have HR4 := Lib.hid (hR.set hne HLB.out 4 (.int .u8 ((UInt8.ofNat xs).toNat : Int)))
              have BX4 := Lib.hid ((BXa.out.set 4 (.int .u8 ((UInt8.ofNat xs).toNat : Int))))
              have BR4 := Lib.hid ((BRa.out.kept (grown_setCell _ bx 4 (.int .u8 ((UInt8.ofNat xs).toNat : Int))) (by simpa using hbw)))
              clear hR hg BXa BRa hqb hqr
              have HGF := Lib.hid (grown_trans HGA.out HR4.out.gr)
              by_cases he : y0 = 0
              · subst he
                by_cases hl : l0 = []
                · have HTT := Lib.hid (show T = (⟨k, 0, 0, [], UInt8.ofNat xs, 0, 0, 0⟩, 0) from by rw [HTB.out, if_neg (by simp), if_neg (by simpa using hl)])
                  obtain rfl : qn4 = 0 := by rw [← HQ4.out, hl]; rfl
                  clear hl
                  go_wp2_with fail
                  refine bodyPost_ret (v := .tuple #[.agg #[.int .u8 (k.toNat : Int), .int .u32 0, .int .u8 0, .slice none 0 0, .int .u8 ((UInt8.ofNat xs).toNat : Int), .int .u8 0, .int .u8 0, .int .i64 0], .int .i64 0]) ?_ rfl ?_
                  · simp only [results]
                    go_simp
                  · rw [HTT.out]
                    have hs8 := fun W => grow8 W w.heap.size (.int .u8 (k.toNat : Int)) (.int .u32 0) (.int .u8 0) (.slice none 0 0) (.int .u8 ((UInt8.ofNat xs).toNat : Int)) (.int .u8 0) (.int .u8 0) (.int .i64 0)
                    refine ⟨none, 0, 0, rfl, ⟨rfl, LineList.nil _ _, by simp [maxLen]⟩, ?_⟩
                    exact grown_new HGF.out (Nat.le_refl _) (hs8 _)
                · have HTT := Lib.hid (show T = (zeroQ, 8) from by rw [HTB.out, if_neg (by simp), if_pos hl])
                  have hq0 : (0 : Int) < (qn4 : Int) := by have := HQ4.out; have := List.length_pos_iff.2 hl; simp only at *; omega
                  clear hl
                  go_wp2_with fail
                  refine bodyPost_ret (v := .tuple #[.agg #[.int .u8 0, .int .u32 0, .int .u8 0, .slice none 0 0, .int .u8 0, .int .u8 0, .int .u8 0, .int .i64 0], .int .i64 8]) ?_ rfl ?_
                  · simp only [results]
                    go_simp
                  · rw [HTT.out]
                    have hs8 := fun W => grow8 W w.heap.size (.int .u8 0) (.int .u32 0) (.int .u8 0) (.slice none 0 0) (.int .u8 0) (.int .u8 0) (.int .u8 0) (.int .i64 0)
                    refine ⟨none, 0, 0, rfl, ⟨rfl, LineList.nil _ _, by simp [maxLen]⟩, ?_⟩
                    exact grown_new HGF.out (Nat.le_refl _) (hs8 _)
              · have HTT := Lib.hid (show T = (zeroQ, y0) from by rw [HTB.out, if_pos he])
                have h1 : (y0 == 0) = false := by simpa using he
                have h2 : (y0 != 0) = true := by simpa using he
                clear he
                go_wp2_with fail
                obtain ⟨pa, pn, pc, hpb, hpr⟩ := HR4.out.at'
                have hS : (w4.setCell ⟨bx, 4, none⟩ (.int .u8 ((xs : Int) % 256))).drew.cell? ⟨g, 1, none⟩ = some (.int .i64 y0) := (by simpa using hpb.look 1)
                have hS9 := hS
                rw [drew_same] at hS9
                clear hpb hpr
                go_region_held_law (fun w' => w'.cell? ⟨g, 1, none⟩ = some (.int .i64 y0)) (first | with_reducible assumption | (simp only [drew_same, SF _ w.heap.size g _ _ _ hneR2]; with_reducible assumption)) (fail)
                all_goals (
                  go_wp2_with fail
                  refine bodyPost_ret (v := .tuple #[.agg #[.int .u8 0, .int .u32 0, .int .u8 0, .slice none 0 0, .int .u8 0, .int .u8 0, .int .u8 0, .int .i64 0], .int .i64 y0]) ?_ rfl ?_
                  · simp only [results]
                    go_simp
                  · rw [HTT.out]
                    have hs8 := fun W => grow8 W w.heap.size (.int .u8 0) (.int .u32 0) (.int .u8 0) (.slice none 0 0) (.int .u8 0) (.int .u8 0) (.int .u8 0) (.int .i64 0)
                    refine ⟨none, 0, 0, rfl, ⟨rfl, LineList.nil _ _, by simp [maxLen]⟩, ?_⟩
                    refine grown_drew ?_
                    exact grown_new HGF.out (Nat.le_refl _) (hs8 _))

end Go.Proofs.Ytomnhgcjdnhijaa
