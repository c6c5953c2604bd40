/-
  The walk through the document's 'event'.
-/
import Derived.Test.YtomnhgcjdnhijaaScriptRDec
namespace Go.Proofs.Ytomnhgcjdnhijaa
open Go.RowKit
set_option maxRecDepth 100000

theorem RR.setErr {w0 w : World} {g : Nat} {e : Int} {l : List UInt8} (R : RR w0 w g (e, l)) (e' : Int) : RR w0 (w.setCell ⟨g, 1, none⟩ (.int .i64 e')) g (e', l) := by
  obtain ⟨a, n, c, hb, hr⟩ := R.at'
  exact ⟨⟨a, n, c, hb.set 1 _, hr.grownX (grown_setCell _ _ _ _) R.low⟩, R.low, grown_new R.gr R.low (grown_setCell _ _ _ _)⟩
theorem RR.look {w0 w : World} {g : Nat} {e : Int} {l : List UInt8} (R : RR w0 w g (e, l)) : ∃ a n c, (∀ i, w.cell? ⟨g, i, none⟩ = ([.slice a n c, .int .i64 e] : List Value)[i]?) ∧ (∀ i, w.frozen? ⟨g, i, none⟩ = false) := by
  obtain ⟨a, n, c, hb, _⟩ := R.at'
  exact ⟨a, n, c, hb.look, hb.open⟩
theorem growNG {a b c : World} {g q : Nat} (h : a.grownBy b (some g)) (hq : a.heap.size ≤ q) (k : b.grownBy c (some q)) : a.grownBy c (some g) :=
  ⟨k.os.trans h.os, k.tape.trans h.tape, k.output.trans h.output, Nat.le_trans h.size k.size, fun i hi hne => (k.block i (Nat.lt_of_lt_of_le hi h.size) (by intro e; cases e; omega)).trans (h.block i hi hne)⟩
theorem grow5 (w : World) (g : Nat) (a b c d e : Value) : w.grownBy (((((w.setCell ⟨g, 0, none⟩ a).setCell ⟨g, 1, none⟩ b).setCell ⟨g, 2, none⟩ c).setCell ⟨g, 3, none⟩ d).setCell ⟨g, 4, none⟩ e) (some g) :=
  grown_same (grown_same (grown_same (grown_same (grown_setCell _ _ _ _) (grown_setCell _ _ _ _)) (grown_setCell _ _ _ _)) (grown_setCell _ _ _ _)) (grown_setCell _ _ _ _)

set_option maxHeartbeats 3200000 in
theorem RR.event {w0 w : World} {g : Nat} {l : List UInt8} (R : RR w0 w g (0, l)) :
    Calls Try.prog 56 #[.pointer (some ⟨g, 0, none⟩)] w fun r w' => ∃ q m d, r = .returned (.agg #[.int .u8 ((evG l).1.k.toNat : Int), .int .u32 ((evG l).1.s : Int), .int .i64 (evG l).1.p, .int .i64 (evG l).1.t, .slice q m d]) ∧
      (evG l).1.b.length = m ∧ RX w' (fun k => w0.heap.size ≤ k) q (evG l).1.b ∧ RR w0 w' g (evG l).2 ∧ w.grownBy w' (some g) := by
  have HLT := Lib.hid R.lt
  have hgb := Lib.hid R.gr.size
  have HRA := Lib.hid (R.grown (growA2 w (.cells #[.int .u8 0, .int .u32 0, .int .i64 0, .int .i64 0, .slice none 0 0] 52) (.cells #[.int .u8 0, .int .u32 0, .int .i64 0, .int .i64 0, .slice none 0 0] 52)))
  have HBR := Lib.hid ((Box.new w 52 [.int .u8 0, .int .u32 0, .int .i64 0, .int .i64 0, .slice none 0 0] w.heap.size rfl).alloc (.cells #[.int .u8 0, .int .u32 0, .int .i64 0, .int .i64 0, .slice none 0 0] 52))
  have HBX := Lib.hid (Box.new (w.alloc (.cells #[.int .u8 0, .int .u32 0, .int .i64 0, .int .i64 0, .slice none 0 0] 52)) 52 [.int .u8 0, .int .u32 0, .int .i64 0, .int .i64 0, .slice none 0 0] (w.heap.size + 1) (by simp))
  have HGA := Lib.hid (growA2 w (.cells #[.int .u8 0, .int .u32 0, .int .i64 0, .int .i64 0, .slice none 0 0] 52) (.cells #[.int .u8 0, .int .u32 0, .int .i64 0, .int .i64 0, .slice none 0 0] 52))
  have SI := set_idx
  obtain ⟨EV, hEV⟩ : ∃ t, evG l = t := ⟨_, rfl⟩
  rw [hEV]
  have SF := set_far
  clear R
  go_enter Try.func56, Try.ntmps56
  go_wp2_with fail
  have hc := HRA.out.num 1
  simp only at hc
  rcases l with _ | ⟨k, rs⟩
  · have HN := Lib.hid (show numF 0 [] 1 = (0, 6, []) from by rw [show numF 0 [] 1 = _ from num_same (n := 1) (by decide) (by decide)]; decide)
    rw [show numF (0 : Int) [] 1 = _ from HN.out] at hc
    refine hc.mono ?_
    clear hc
    rintro r w1 ⟨rfl, hR, hg⟩
    have hne : w.heap.size + 1 ≠ g := by have := HLT.out; omega
    have hne2 : g ≠ w.heap.size + 1 := by have := HLT.out; omega
    have hw1 : w0.heap.size ≤ w.heap.size + 1 := by have := hgb.out; omega
    have HBX1 := Lib.hid (HBX.out.kept hg (by simp; omega))
    have HBR1 := Lib.hid (HBR.out.kept hg (by have := HLT.out; simp; omega))
    have HG1 := Lib.hid (grown_trans HGA.out hg)
    have HR1 := Lib.hid hR
    obtain ⟨ra, rn, rc, RW, RO⟩ := hR.look
    have L1 := HBX1.out.look
    have YB := HBR1.out.look
    have YC := HBR1.out.open
    have O1 := HBX1.out.open
    clear hR hg HBX HBR HRA HGA
    have HEQ := Lib.hid (show EV = (⟨0, 0, 0, 0, []⟩, 6, []) from hEV.symm)
    have HRW := Lib.hid (HR1.out.set hne hw1 0 (.int .u8 0))
    have BXW := Lib.hid (HBX1.out.set 0 (.int .u8 0))
    have BRW := Lib.hid (HBR1.out.kept (grown_setCell w1 (w.heap.size + 1) 0 (.int .u8 0)) (by simp))
    have HRXW := Lib.hid (RX.nil (w1.setCell ⟨w.heap.size + 1, 0, none⟩ (.int .u8 0)) (fun k => w0.heap.size ≤ k) none)
    have HGW := Lib.hid (growNG HG1.out (Nat.le_succ _) (grown_setCell w1 (w.heap.size + 1) 0 (.int .u8 0)))
    have HMM := Lib.hid (show ([] : List UInt8).length = 0 from rfl)
    clear hEV
    have XW := BXW.out.look
    have XO := BXW.out.open
    have YO := BRW.out.open
    have YW := BRW.out.look
    go_wp2_with fail
    refine bodyPost_ret (v := .agg #[.int .u8 0, .int .u32 0, .int .i64 0, .int .i64 0, .slice none 0 0]) ?_ rfl ?_
    · simp only [results]
      go_simp
    · rw [HEQ.out]
      have hs5 := fun W => grow5 W w.heap.size (.int .u8 0) (.int .u32 0) (.int .i64 0) (.int .i64 0) (.slice none 0 0)
      have hb := hgb.out
      exact ⟨none, 0, 0, rfl, HMM.out, HRXW.out.kept (Kept.of_row (hs5 _) hb), HRW.out.other (hs5 _) (by have := HLT.out; omega) hb, growNG HGW.out (Nat.le_refl _) (hs5 _)⟩
  · have hu := k.toNat_lt
    have hwk : IntKind.u8.wrap (k.toNat : Int) = (k.toNat : Int) := by simp [IntKind.wrap, IntKind.signed, IntKind.bits]; omega
    have HN := Lib.hid (show numF 0 (k :: rs) 1 = (k.toNat, 0, rs) from by
      rw [show numF 0 (k :: rs) 1 = _ from num_same (n := 1) (by decide) (by decide), show numR 0 (k :: rs) ((1 : Nat) : Int) = _ from numR_cons k rs]
      rfl)
    rw [show numF (0 : Int) (k :: rs) 1 = _ from HN.out] at hc
    refine hc.mono ?_
    clear hc
    rintro r w1 ⟨rfl, hR, hg⟩
    have hne : w.heap.size + 1 ≠ g := by have := HLT.out; omega
    have hne2 : g ≠ w.heap.size + 1 := by have := HLT.out; omega
    have hw1 : w0.heap.size ≤ w.heap.size + 1 := by have := hgb.out; omega
    have HBX1 := Lib.hid (HBX.out.kept hg (by simp; omega))
    have HBR1 := Lib.hid (HBR.out.kept hg (by have := HLT.out; simp; omega))
    have HG1 := Lib.hid (grown_trans HGA.out hg)
    have HR1 := Lib.hid hR
    obtain ⟨ra, rn, rc, RW, RO⟩ := hR.look
    have L1 := HBX1.out.look
    have YB := HBR1.out.look
    have YC := HBR1.out.open
    have O1 := HBX1.out.open
    clear hR hg HBX HBR HRA HGA
    have HRK := Lib.hid (HR1.out.set hne hw1 0 (.int .u8 (k.toNat : Int)))
    have BXK := Lib.hid (HBX1.out.set 0 (.int .u8 (k.toNat : Int)))
    have BRK := Lib.hid (HBR1.out.kept (grown_setCell w1 (w.heap.size + 1) 0 (.int .u8 (k.toNat : Int))) (by simp))
    have HGK := Lib.hid (growNG HG1.out (Nat.le_succ _) (grown_setCell w1 (w.heap.size + 1) 0 (.int .u8 (k.toNat : Int))))
    unfold evG at hEV
    simp only at hEV
    by_cases hbk : k.toNat < 1 ∨ 8 < k.toNat
    · have HEQ := Lib.hid (show EV = (⟨k, 0, 0, 0, []⟩, 8, rs) from by rw [← hEV, if_pos hbk])
      have HRW := Lib.hid (HRK.out.setErr 8)
      have BXW := Lib.hid (BXK.out.kept (grown_setCell _ g 1 (.int .i64 8)) (by simpa using hne2))
      have BRW := Lib.hid (BRK.out.kept (grown_setCell _ g 1 (.int .i64 8)) (by have := HLT.out; simp; omega))
      have HRXW := Lib.hid (RX.nil ((w1.setCell ⟨w.heap.size + 1, 0, none⟩ (.int .u8 (k.toNat : Int))).setCell ⟨g, 1, none⟩ (.int .i64 8)) (fun k => w0.heap.size ≤ k) none)
      have HGW := Lib.hid (grown_same HGK.out (grown_setCell _ g 1 (.int .i64 8)))
      have HMM := Lib.hid (show ([] : List UInt8).length = 0 from rfl)
      have z1 : ((k.toNat : Int) == 1) = false := by simp; omega
      have z2 : ((k.toNat : Int) == 2) = false := by simp; omega
      have z3 : ((k.toNat : Int) == 3) = false := by simp; omega
      have z4 : ((k.toNat : Int) == 4) = false := by simp; omega
      have z5 : ((k.toNat : Int) == 5) = false := by simp; omega
      have z6 : ((k.toNat : Int) == 6) = false := by simp; omega
      have z7 : ((k.toNat : Int) == 7) = false := by simp; omega
      have z8 : ((k.toNat : Int) == 8) = false := by simp; omega
      have hbk' : (k.toNat : Int) < 1 ∨ 8 < (k.toNat : Int) := by omega
      clear hEV
      rcases hbk' with hbk' | hbk'
      all_goals (
        have XW := BXW.out.look
        have XO := BXW.out.open
        have YO := BRW.out.open
        have YW := BRW.out.look
        go_wp2_with fail
        refine bodyPost_ret (v := .agg #[.int .u8 (k.toNat : Int), .int .u32 0, .int .i64 0, .int .i64 0, .slice none 0 0]) ?_ rfl ?_
        · simp only [results]
          go_simp
        · rw [HEQ.out]
          have hs5 := fun W => grow5 W w.heap.size (.int .u8 (k.toNat : Int)) (.int .u32 0) (.int .i64 0) (.int .i64 0) (.slice none 0 0)
          have hb := hgb.out
          exact ⟨none, 0, 0, rfl, HMM.out, HRXW.out.kept (Kept.of_row (hs5 _) hb), HRW.out.other (hs5 _) (by have := HLT.out; omega) hb, growNG HGW.out (Nat.le_refl _) (hs5 _)⟩
      )
    · have hb1 : (1 : Int) ≤ (k.toNat : Int) := by omega
      have hb8 : (k.toNat : Int) ≤ 8 := by omega
      have q1 : ((k.toNat : Int) == 1) = decide (k = 1) := k_eq k 1 (by decide)
      have q2 : ((k.toNat : Int) == 2) = decide (k = 2) := k_eq k 2 (by decide)
      have q3 : ((k.toNat : Int) == 3) = decide (k = 3) := k_eq k 3 (by decide)
      have q7 : ((k.toNat : Int) == 7) = decide (k = 7) := k_eq k 7 (by decide)
      rw [if_neg hbk] at hEV
      by_cases e1 : k = 1
      · rw [if_pos e1] at hEV
        rw [decide_eq_true e1] at q1
        have hc := HRK.out.bytes
        simp only at hc
        obtain ⟨⟨bs, e2, l2⟩, hbs⟩ : ∃ t, bytesF 0 rs = t := ⟨_, rfl⟩
        rw [show bytesF (0 : Int) rs = _ from hbs] at hc
        rw [hbs] at hEV
        have HC := Lib.hid hc
        have HEQ := Lib.hid hEV.symm
        clear hc hbs e1 q2 q3 q7 hEV
        go_wp2_with fail
        refine HC.out.mono ?_
        rintro r w2 ⟨q, m, d, rfl, hm, hrx, hR, hg⟩
        have HMM := Lib.hid hm
        have HRW := Lib.hid (hR.set hne hw1 4 (.slice q m d))
        have HBX2 := Lib.hid (BXK.out.kept hg (by simpa using hne2))
        have BXW := Lib.hid (HBX2.out.set 4 (.slice q m d))
        have BRB2 := Lib.hid (BRK.out.kept hg (by have := HLT.out; simp; omega))
        have YB2 := BRB2.out.look
        have YC2 := BRB2.out.open
        have BRW := Lib.hid (BRB2.out.kept (grown_setCell w2 (w.heap.size + 1) 4 (.slice q m d)) (by simp))
        have HRXW := Lib.hid (hrx.kept (Kept.of_row (grown_setCell w2 (w.heap.size + 1) 4 (.slice q m d)) hw1))
        have HGW := Lib.hid (growNG (grown_same HGK.out hg) (Nat.le_succ _) (grown_setCell w2 (w.heap.size + 1) 4 (.slice q m d)))
        have L2 := HBX2.out.look
        have O2 := HBX2.out.open
        clear hm hrx hR hg L1 O1 RW RO HRK BXK BRK HGK
        have XW := BXW.out.look
        have XO := BXW.out.open
        have YO := BRW.out.open
        have YW := BRW.out.look
        go_wp2_with fail
        refine bodyPost_ret (v := .agg #[.int .u8 (k.toNat : Int), .int .u32 0, .int .i64 0, .int .i64 0, .slice q m d]) ?_ rfl ?_
        · simp only [results]
          go_simp
        · rw [HEQ.out]
          have hs5 := fun W => grow5 W w.heap.size (.int .u8 (k.toNat : Int)) (.int .u32 0) (.int .i64 0) (.int .i64 0) (.slice q m d)
          have hb := hgb.out
          exact ⟨q, m, d, rfl, HMM.out, HRXW.out.kept (Kept.of_row (hs5 _) hb), HRW.out.other (hs5 _) (by have := HLT.out; omega) hb, growNG HGW.out (Nat.le_refl _) (hs5 _)⟩
      · by_cases e2 : k = 2 ∨ k = 3
        · rw [if_neg e1, if_pos e2] at hEV
          rw [decide_eq_false e1] at q1
          have hc := HRK.out.num 4
          simp only at hc
          have hxl := numF_lt 0 rs 4
          obtain ⟨⟨x, y2, l2⟩, hx⟩ : ∃ t, numF 0 rs 4 = t := ⟨_, rfl⟩
          rw [show numF (0 : Int) rs 4 = _ from hx] at hc
          rw [show numF 0 rs ((4 : Nat) : Int) = numF 0 rs 4 from rfl, hx] at hxl
          rw [hx] at hEV
          simp only at hxl
          have hwx : IntKind.u32.wrap (x : Int) = (x : Int) := by simp [IntKind.wrap, IntKind.signed, IntKind.bits]; omega
          have HC := Lib.hid hc
          have HEQ := Lib.hid hEV.symm
          have HMM := Lib.hid (show ([] : List UInt8).length = 0 from rfl)
          clear hc hx e1 q7 hEV hxl
          rcases e2 with e2 | e2
          · rw [decide_eq_true e2] at q2
            clear e2 q3
            go_wp2_with fail
            refine HC.out.mono ?_
            rintro r w2 ⟨rfl, hR, hg⟩
            have HRW := Lib.hid (hR.set hne hw1 1 (.int .u32 (x : Int)))
            have HBX2 := Lib.hid (BXK.out.kept hg (by simpa using hne2))
            have BXW := Lib.hid (HBX2.out.set 1 (.int .u32 (x : Int)))
            have BRB2 := Lib.hid (BRK.out.kept hg (by have := HLT.out; simp; omega))
            have YB2 := BRB2.out.look
            have YC2 := BRB2.out.open
            have BRW := Lib.hid (BRB2.out.kept (grown_setCell w2 (w.heap.size + 1) 1 (.int .u32 (x : Int))) (by simp))
            have HRXW := Lib.hid (RX.nil (w2.setCell ⟨w.heap.size + 1, 1, none⟩ (.int .u32 (x : Int))) (fun k => w0.heap.size ≤ k) none)
            have HGW := Lib.hid (growNG (grown_same HGK.out hg) (Nat.le_succ _) (grown_setCell w2 (w.heap.size + 1) 1 (.int .u32 (x : Int))))
            have L2 := HBX2.out.look
            have O2 := HBX2.out.open
            clear hR hg L1 O1 RW RO HRK BXK BRK HGK
            have XW := BXW.out.look
            have XO := BXW.out.open
            have YO := BRW.out.open
            have YW := BRW.out.look
            go_wp2_with fail
            refine bodyPost_ret (v := .agg #[.int .u8 (k.toNat : Int), .int .u32 (x : Int), .int .i64 0, .int .i64 0, .slice none 0 0]) ?_ rfl ?_
            · simp only [results]
              go_simp
            · rw [HEQ.out]
              have hs5 := fun W => grow5 W w.heap.size (.int .u8 (k.toNat : Int)) (.int .u32 (x : Int)) (.int .i64 0) (.int .i64 0) (.slice none 0 0)
              have hb := hgb.out
              exact ⟨none, 0, 0, rfl, HMM.out, HRXW.out.kept (Kept.of_row (hs5 _) hb), HRW.out.other (hs5 _) (by have := HLT.out; omega) hb, growNG HGW.out (Nat.le_refl _) (hs5 _)⟩
          · rw [decide_eq_true e2] at q3
            rw [show decide (k = 2) = false by rw [e2]; decide] at q2
            clear e2
            go_wp2_with fail
            refine HC.out.mono ?_
            rintro r w2 ⟨rfl, hR, hg⟩
            have HRW := Lib.hid (hR.set hne hw1 1 (.int .u32 (x : Int)))
            have HBX2 := Lib.hid (BXK.out.kept hg (by simpa using hne2))
            have BXW := Lib.hid (HBX2.out.set 1 (.int .u32 (x : Int)))
            have BRB2 := Lib.hid (BRK.out.kept hg (by have := HLT.out; simp; omega))
            have YB2 := BRB2.out.look
            have YC2 := BRB2.out.open
            have BRW := Lib.hid (BRB2.out.kept (grown_setCell w2 (w.heap.size + 1) 1 (.int .u32 (x : Int))) (by simp))
            have HRXW := Lib.hid (RX.nil (w2.setCell ⟨w.heap.size + 1, 1, none⟩ (.int .u32 (x : Int))) (fun k => w0.heap.size ≤ k) none)
            have HGW := Lib.hid (growNG (grown_same HGK.out hg) (Nat.le_succ _) (grown_setCell w2 (w.heap.size + 1) 1 (.int .u32 (x : Int))))
            have L2 := HBX2.out.look
            have O2 := HBX2.out.open
            clear hR hg L1 O1 RW RO HRK BXK BRK HGK
            have XW := BXW.out.look
            have XO := BXW.out.open
            have YO := BRW.out.open
            have YW := BRW.out.look
            go_wp2_with fail
            refine bodyPost_ret (v := .agg #[.int .u8 (k.toNat : Int), .int .u32 (x : Int), .int .i64 0, .int .i64 0, .slice none 0 0]) ?_ rfl ?_
            · simp only [results]
              go_simp
            · rw [HEQ.out]
              have hs5 := fun W => grow5 W w.heap.size (.int .u8 (k.toNat : Int)) (.int .u32 (x : Int)) (.int .i64 0) (.int .i64 0) (.slice none 0 0)
              have hb := hgb.out
              exact ⟨none, 0, 0, rfl, HMM.out, HRXW.out.kept (Kept.of_row (hs5 _) hb), HRW.out.other (hs5 _) (by have := HLT.out; omega) hb, growNG HGW.out (Nat.le_refl _) (hs5 _)⟩
        · by_cases e7 : k = 7
          · rw [if_neg e1, if_neg e2, if_pos e7] at hEV
            rw [decide_eq_false e1] at q1
            rw [decide_eq_false (fun h => e2 (.inl h))] at q2
            rw [decide_eq_false (fun h => e2 (.inr h))] at q3
            rw [decide_eq_true e7] at q7
            have hc := HRK.out.num 2
            simp only at hc
            have hxl := numF_lt 0 rs 2
            obtain ⟨⟨x, y2, l2⟩, hx⟩ : ∃ t, numF 0 rs 2 = t := ⟨_, rfl⟩
            rw [show numF (0 : Int) rs 2 = _ from hx] at hc
            rw [show numF 0 rs ((2 : Nat) : Int) = numF 0 rs 2 from rfl, hx] at hxl
            rw [hx] at hEV
            simp only at hxl hEV
            have hzl := numF_lt y2 l2 2
            obtain ⟨⟨z, y3, l3⟩, hz⟩ : ∃ t, numF y2 l2 2 = t := ⟨_, rfl⟩
            rw [show numF y2 l2 ((2 : Nat) : Int) = numF y2 l2 2 from rfl, hz] at hzl
            rw [hz] at hEV
            simp only at hzl
            have hwx : IntKind.i64.wrap (x : Int) = (x : Int) := IntWalk.i64_in _ (by omega)
            have hwz : IntKind.i64.wrap (z : Int) = (z : Int) := IntWalk.i64_in _ (by omega)
            have HC := Lib.hid hc
            have HZ := Lib.hid hz
            have HEQ := Lib.hid hEV.symm
            have HMM := Lib.hid (show ([] : List UInt8).length = 0 from rfl)
            clear hc hx hz e1 e2 e7 hEV hxl hzl
            go_wp2_with fail
            refine HC.out.mono ?_
            rintro r w2 ⟨rfl, hR, hg⟩
            have HR2 := Lib.hid (hR.set hne hw1 2 (.int .i64 (x : Int)))
            have HBX2 := Lib.hid (BXK.out.kept hg (by simpa using hne2))
            have BX2 := Lib.hid (HBX2.out.set 2 (.int .i64 (x : Int)))
            have BR2 := Lib.hid ((BRK.out.kept hg (by have := HLT.out; simp; omega)).kept (grown_setCell w2 (w.heap.size + 1) 2 (.int .i64 (x : Int))) (by simp))
            have HG2 := Lib.hid (growNG (grown_same HGK.out hg) (Nat.le_succ _) (grown_setCell w2 (w.heap.size + 1) 2 (.int .i64 (x : Int))))
            have L2 := HBX2.out.look
            have O2 := HBX2.out.open
            clear hR hg L1 O1 RW RO HRK BXK BRK HGK
            have hc := HR2.out.num 2
            simp only at hc
            rw [show numF y2 l2 2 = _ from HZ.out] at hc
            have HC2 := Lib.hid hc
            clear hc
            go_wp2_with fail
            refine HC2.out.mono ?_
            rintro r w3 ⟨rfl, hR, hg⟩
            have HRW := Lib.hid (hR.set hne hw1 3 (.int .i64 (z : Int)))
            have HBX3 := Lib.hid (BX2.out.kept hg (by simpa using hne2))
            have BXW := Lib.hid (HBX3.out.set 3 (.int .i64 (z : Int)))
            have BRB3 := Lib.hid (BR2.out.kept hg (by have := HLT.out; simp; omega))
            have YB3 := BRB3.out.look
            have YC3 := BRB3.out.open
            have BRW := Lib.hid (BRB3.out.kept (grown_setCell w3 (w.heap.size + 1) 3 (.int .i64 (z : Int))) (by simp))
            have HRXW := Lib.hid (RX.nil (w3.setCell ⟨w.heap.size + 1, 3, none⟩ (.int .i64 (z : Int))) (fun k => w0.heap.size ≤ k) none)
            have HGW := Lib.hid (growNG (grown_same HG2.out hg) (Nat.le_succ _) (grown_setCell w3 (w.heap.size + 1) 3 (.int .i64 (z : Int))))
            have L3 := HBX3.out.look
            have O3 := HBX3.out.open
            clear hR hg L2 O2
            have XW := BXW.out.look
            have XO := BXW.out.open
            have YO := BRW.out.open
            have YW := BRW.out.look
            go_wp2_with fail
            refine bodyPost_ret (v := .agg #[.int .u8 (k.toNat : Int), .int .u32 0, .int .i64 (x : Int), .int .i64 (z : Int), .slice none 0 0]) ?_ rfl ?_
            · simp only [results]
              go_simp
            · rw [HEQ.out]
              have hs5 := fun W => grow5 W w.heap.size (.int .u8 (k.toNat : Int)) (.int .u32 0) (.int .i64 (x : Int)) (.int .i64 (z : Int)) (.slice none 0 0)
              have hb := hgb.out
              exact ⟨none, 0, 0, rfl, HMM.out, HRXW.out.kept (Kept.of_row (hs5 _) hb), HRW.out.other (hs5 _) (by have := HLT.out; omega) hb, growNG HGW.out (Nat.le_refl _) (hs5 _)⟩
          · rw [if_neg e1, if_neg e2, if_neg e7] at hEV
            rw [decide_eq_false e1] at q1
            rw [decide_eq_false (fun h => e2 (.inl h))] at q2
            rw [decide_eq_false (fun h => e2 (.inr h))] at q3
            rw [decide_eq_false e7] at q7
            have HEQ := Lib.hid hEV.symm
            have HMM := Lib.hid (show ([] : List UInt8).length = 0 from rfl)
            have HRW := Lib.hid HRK.out
            have BXW := Lib.hid BXK.out
            have BRW := Lib.hid BRK.out
            have HRXW := Lib.hid (RX.nil (w1.setCell ⟨w.heap.size + 1, 0, none⟩ (.int .u8 (k.toNat : Int))) (fun k => w0.heap.size ≤ k) none)
            have HGW := Lib.hid HGK.out
            clear e1 e2 e7 hEV
            have hk4 : (k.toNat : Int) = 4 ∨ (k.toNat : Int) = 5 ∨ (k.toNat : Int) = 6 ∨ (k.toNat : Int) = 8 := by
              simp at q1 q2 q3 q7
              omega
            have p4 : ∃ b, ((k.toNat : Int) == 4) = b := ⟨_, rfl⟩
            have p5 : ∃ b, ((k.toNat : Int) == 5) = b := ⟨_, rfl⟩
            have p6 : ∃ b, ((k.toNat : Int) == 6) = b := ⟨_, rfl⟩
            have p8 : ∃ b, ((k.toNat : Int) == 8) = b := ⟨_, rfl⟩
            clear hk4
            have XW := BXW.out.look
            have XO := BXW.out.open
            have YO := BRW.out.open
            have YW := BRW.out.look
            go_wp2_with fail
            refine bodyPost_ret (v := .agg #[.int .u8 (k.toNat : Int), .int .u32 0, .int .i64 0, .int .i64 0, .slice none 0 0]) ?_ rfl ?_
            · simp only [results]
              go_simp
            · rw [HEQ.out]
              have hs5 := fun W => grow5 W w.heap.size (.int .u8 (k.toNat : Int)) (.int .u32 0) (.int .i64 0) (.int .i64 0) (.slice none 0 0)
              have hb := hgb.out
              exact ⟨none, 0, 0, rfl, HMM.out, HRXW.out.kept (Kept.of_row (hs5 _) hb), HRW.out.other (hs5 _) (by have := HLT.out; omega) hb, growNG HGW.out (Nat.le_refl _) (hs5 _)⟩

end Go.Proofs.Ytomnhgcjdnhijaa
