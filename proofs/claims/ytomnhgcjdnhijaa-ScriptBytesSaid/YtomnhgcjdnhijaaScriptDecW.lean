/-
  The walk through 'Decode' of events.
-/
import Derived.Test.YtomnhgcjdnhijaaScriptDec
namespace Go.Proofs.Ytomnhgcjdnhijaa
open Go.RowKit
set_option maxRecDepth 100000

theorem info_ev : (Try.prog.info? 52).map (fun i => (i.zero, i.size, i.bytes)) = some (some (.agg #[.int .u8 0, .int .u32 0, .int .i64 0, .int .i64 0, .slice none 0 0]), 5, 48) := by kernel_rfl
def DecRel (w : World) (B g : Nat) (X : Nat → Prop) (T : List EvP × Int) (N : Nat) (v i : Value) (wr : World) : Prop :=
  ∃ (k : Nat) (e : Int) (l : List UInt8) (acc : List EvP), k ≤ N ∧ i = .int .i64 k ∧ acc.length = k ∧ EvRow wr B X v acc ∧ Rd w wr g X (e, l) ∧ B ≤ wr.heap.size ∧ (e = 0 → T = decF (N - k) l acc) ∧ (e ≠ 0 → T = ([], e))
theorem dec_bad {T : List EvP × Int} {n : Nat} {e : Int} {l : List UInt8} {acc : List EvP} (h0 : e = 0 → T = decF (n + 1) l acc) (h1 : e ≠ 0 → T = ([], e)) (hb : e ≠ 0 ∨ l = []) :
    ∃ e1, e1 ≠ 0 ∧ numR e l 1 = (0, e1, l) ∧ T = ([], e1) := by
  by_cases he : e = 0
  · rcases hb with hb | hb
    · exact absurd he hb
    · subst he hb
      exact ⟨6, by decide, numR_short (n := 1) (by decide) (by decide) (by simp), h0 rfl⟩
  · exact ⟨e, he, numR_ill he l (n := 1) (by decide) (by decide), h1 he⟩

set_option maxHeartbeats 3200000 in
theorem script_decode (a : Option Addr) (n c : Nat) (l : List UInt8) (w : World) (hn : l.length = n) (hr : RB w a l) (hm : n ≤ 140737488355327) :
    Calls Try.prog 21 #[.slice a n c] w (DecEPost w (decE l)) := by
  have HC := Lib.hid (Rd.new a n c l w hn hr hm)
  obtain ⟨T, hT⟩ : ∃ T, decE l = T := ⟨_, rfl⟩
  rw [hT]
  have HT := Lib.hid hT
  have SI := set_idx
  clear hn hr hm hT
  go_enter Try.func21, Try.ntmps21
  go_wp2_with fail
  refine HC.out.mono ?_
  rintro r w1 ⟨g, rfl, hR⟩
  obtain ⟨X, hX⟩ : ∃ X, OutX w.heap.size g = X := ⟨_, rfl⟩
  have hXg : ∀ k, g ≤ k → X k := fun k hk => by rw [← hX]; exact .inr hk
  rw [hX] at hR
  have HX := Lib.hid hXg
  have HR1 := Lib.hid hR
  have hgl := hR.low
  clear hR hX hXg
  go_wp2_with fail
  refine (HR1.out.num 2).mono ?_
  rintro r w2 ⟨rfl, hR, hg⟩
  obtain ⟨N, e0, l0, hnum, hN, hd0, hd1⟩ : ∃ N e0 l0, numR 0 l 2 = (N, e0, l0) ∧ N < 65536 ∧ (e0 = 0 → T = if 1024 < N then ([], 7) else decF N l0 []) ∧ (e0 ≠ 0 → N = 0 ∧ T = ([], e0)) := by
    by_cases h2 : l.length < 2
    · refine ⟨0, 6, l, numR_short (n := 2) (by decide) (by decide) h2, by decide, fun h => absurd h (by decide), fun _ => ⟨rfl, ?_⟩⟩
      rw [← HT.out]; unfold decE; rw [if_pos h2]
    · refine ⟨valN (l.take 2), 0, l.drop 2, numR_fit (n := 2) (by decide) (by decide) (by omega), valN_take_lt l 2, fun _ => ?_, fun h => absurd rfl h⟩
      rw [← HT.out]; unfold decE; rw [if_neg h2]
  simp only at hR
  rw [show numR (0 : Int) l 2 = _ from hnum] at hR ⊢
  have HR2 := Lib.hid hR
  have hwN : IntKind.i64.wrap (N : Int) = (N : Int) := IntWalk.i64_in _ (by omega)
  have HD0 := Lib.hid hd0; have HD1 := Lib.hid hd1
  clear hR hg hnum hd0 hd1 HR1
  by_cases h1024 : 1024 < N
  · have h1024' : (1024 : Int) < (N : Int) := by omega
    have HTT := Lib.hid (show T = ([], 7) by
      by_cases he : e0 = 0
      · rw [HD0.out he, if_pos h1024]
      · have := (HD1.out he).1; omega)
    go_wp2_with fail
    go_ret2
    rw [HTT.out]
    exact ⟨none, 0, 0, rfl, rfl, fun i h => absurd h (by simp), HR2.out.gr⟩
  have h1024' : (N : Int) ≤ 1024 := by omega
  go_wp2_with fail
  have HB := Lib.hid HR2.out.lt
  go_loopw [6, 17] (fun v i wr => DecRel w w2.heap.size g X T N v i wr) (fun _ i _ => N - (intOf i).toNat)
  case atStart =>
    refine ⟨0, e0, l0, [], Nat.zero_le _, rfl, rfl, EvRow.nil _ _ _, HR2.out, Nat.le_refl _, fun h => ?_, fun h => (HD1.out h).2⟩
    rw [HD0.out h, if_neg h1024]
    rfl
  case round =>
    obtain ⟨k, e, l1, acc, hk, rfl, hacc, hrow, hR, hsz, ht0, ht1⟩ := hrel
    have HROW := Lib.hid hrow; have HR := Lib.hid hR; have HACC := Lib.hid hacc
    have HT0 := Lib.hid ht0; have HT1 := Lib.hid ht1
    have HSZ := Lib.hid hsz
    clear hrow hR hacc ht0 ht1 hsz
    by_cases hlt : k < N
    · obtain ⟨M, hM⟩ : ∃ M, N - k = M + 1 := ⟨N - k - 1, by omega⟩
      rw [hM] at HT0
      have HM := Lib.hid (show N - (k + 1) = M by omega)
      clear hM
      by_cases hbad : e ≠ 0 ∨ l1 = []
      · obtain ⟨e1, he1, hnum, hTT⟩ := dec_bad HT0.out HT1.out hbad
        have he' : (e1 == 0) = false := by simpa using he1
        have he'' : (e1 != 0) = true := by simpa using he1
        have HTT := Lib.hid hTT
        have HEND := Lib.hid (endR_ill he1 l1)
        have HNUM := Lib.hid hnum
        clear hTT hbad he1 hnum
        go_wp2_with fail
        refine (HR.out.num 1).mono ?_
        simp only
        rw [show numR e l1 1 = _ from HNUM.out]
        rintro r w3 ⟨rfl, hR, _⟩
        have HR3 := Lib.hid hR
        clear hR
        go_wp2_with fail
        refine ((HR3.out.grown (World.grownBy_alloc _ _ none)).err).mono ?_
        rintro r w4 ⟨rfl, rfl⟩
        go_wp2_with fail
        refine ((HR3.out.grown (World.grownBy_alloc _ _ none)).end').mono ?_
        rintro r w4 ⟨rfl, rfl⟩
        simp only
        rw [HEND.out]
        go_wp2_with fail
        go_ret2
        rw [HTT.out]
        exact ⟨none, 0, 0, rfl, rfl, fun i h => absurd h (by simp), growA _ _ HR3.out.gr⟩
      · obtain ⟨rfl, hl⟩ : e = 0 ∧ l1 ≠ [] := ⟨Decidable.of_not_not (fun h => hbad (.inl h)), fun h => hbad (.inr h)⟩
        obtain ⟨kb, rs, rfl⟩ := List.exists_cons_of_ne_nil hl
        have hu := kb.toNat_lt
        have HT2 := Lib.hid (HT0.out rfl)
        have hwk : IntKind.u8.wrap (kb.toNat : Int) = (kb.toNat : Int) := by simp [IntKind.wrap, IntKind.signed, IntKind.bits]; omega
        clear hbad hl HT0 HT1
        go_wp2_with fail
        refine (HR.out.num 1).mono ?_
        simp only
        rw [numR_cons]
        rintro r w3 ⟨rfl, hR, hg⟩
        have HR3 := Lib.hid (hR.grown (World.grownBy_alloc w3 (.cells #[.int .u8 (kb.toNat : Int), .int .u32 0, .int .i64 0, .int .i64 0, .slice none 0 0] 52) none))
        have HBX := Lib.hid (Box.new w3 52 [.int .u8 (kb.toNat : Int), .int .u32 0, .int .i64 0, .int .i64 0, .slice none 0 0] w3.heap.size rfl)
        have HROW3 := Lib.hid ((HROW.out.kept hg HB.out (HX.out g (Nat.le_refl _))).grown (World.grownBy_alloc w3 (.cells #[.int .u8 (kb.toNat : Int), .int .u32 0, .int .i64 0, .int .i64 0, .slice none 0 0] 52) none))
        have HNE := Lib.hid (show w2.heap.size ≤ w3.heap.size from Nat.le_trans HSZ.out hg.size)
        have HNB := Lib.hid (show u6.ownBlock ≠ some w3.heap.size from fun h => by have := ((HROW.out.kept hg HB.out (HX.out g (Nat.le_refl _))).lt _ h).2; omega)
        clear hR hg HR HROW HSZ
        go_wp2_with fail
        generalize w3.alloc (.cells #[.int .u8 (kb.toNat : Int), .int .u32 0, .int .i64 0, .int .i64 0, .slice none 0 0] 52) = w4 at *
        generalize w3.heap.size = bx at *
        refine HR3.out.err.mono ?_
        rintro r w5 ⟨rfl, rfl⟩
        have X4 := HBX.out.look
        have O4 := HBX.out.open
        by_cases hbk : kb.toNat < 1 ∨ 8 < kb.toNat
        · have HTT := Lib.hid (show T = ([], 8) by rw [HT2.out, decF_cons, if_pos hbk])
          have hbk' : (kb.toNat : Int) < 1 ∨ 8 < (kb.toNat : Int) := by omega
          rcases hbk' with hbk' | hbk'
          all_goals (
            go_wp2_with fail
            go_ret2
            rw [HTT.out]
            exact ⟨none, 0, 0, rfl, rfl, fun i h => absurd h (by simp), HR3.out.gr⟩)
        · have hb1 : (1 : Int) ≤ (kb.toNat : Int) := by omega
          have hb8 : (kb.toNat : Int) ≤ 8 := by omega
          have q1 : ((kb.toNat : Int) == 1) = decide (kb = 1) := k_eq kb 1 (by decide)
          have q2 : ((kb.toNat : Int) == 2) = decide (kb = 2) := k_eq kb 2 (by decide)
          have q3 : ((kb.toNat : Int) == 3) = decide (kb = 3) := k_eq kb 3 (by decide)
          have q7 : ((kb.toNat : Int) == 7) = decide (kb = 7) := k_eq kb 7 (by decide)
          have HQ := Lib.hid (show namedE (kb.toNat : Int) = (decide (kb = 2) || decide (kb = 3)) by unfold namedE; rw [q2, q3])
          have HNM := Lib.hid (fun w => script_named (kb.toNat : Int) w)
          rw [HQ.out] at HNM
          clear q2 q3 HQ
          by_cases e1 : kb = 1
          · rw [decide_eq_true e1] at q1
            have HEV := Lib.hid (show evR kb rs = (⟨kb, 0, 0, 0, (bytesR 0 rs 512).1⟩, (bytesR 0 rs 512).2) by unfold evR; rw [if_pos e1])
            obtain ⟨⟨bs, e2, l2⟩, hbs⟩ : ∃ t, bytesR 0 rs 512 = t := ⟨_, rfl⟩
            rw [hbs] at HEV
            have HBS := Lib.hid hbs
            clear e1 hbs q7
            go_wp2_with fail
            have hc := HR3.out.bytes 512
            simp only at hc
            rw [show bytesR (0 : Int) rs 512 = _ from HBS.out] at hc
            refine hc.mono ?_
            clear hc
            rintro r w5 ⟨q, m, d, rfl, hm, hrx, hR, hg⟩
            have HBX5 := Lib.hid (HBX.out.kept hg (by have := HB.out; have := HNE.out; simp; omega))
            have hbg : bx ≠ g := by have := HB.out; have := HNE.out; omega
            have hXb := HX.out bx (by have := HB.out; have := HNE.out; omega)
            have hwb : w.heap.size ≤ bx := by have := HB.out; have := HNE.out; omega
            have HRW := Lib.hid (hR.set hbg hXb hwb 4 (.slice q m d))
            have HROWW := Lib.hid ((HROW3.out.kept hg HB.out (HX.out g (Nat.le_refl _))).keptN (grown_setCell w5 bx 4 (.slice q m d)) HNB.out hXb)
            have HRXW := Lib.hid (hrx.kept (Kept.of_row (grown_setCell w5 bx 4 (.slice q m d)) hXb))
            have BXW := Lib.hid (HBX5.out.set 4 (.slice q m d))
            have HMM := Lib.hid hm
            clear X4 O4 hR hg hrx hm hXb
            have X5 := HBX5.out.look
            have O5 := HBX5.out.open
            obtain ⟨Ls, hO, hLl, hLa⟩ := HROWW.out
            have HO := Lib.hid (hO.grown (World.grownBy_alloc _ (.cells (evCells ⟨kb, 0, 0, 0, bs⟩ q m d).toArray 52) none))
            have HLA := Lib.hid (hLa.alloc (.cells (evCells ⟨kb, 0, 0, 0, bs⟩ q m d).toArray 52))
            have HLL := Lib.hid hLl
            have HRE := Lib.hid (HRW.out.grown (World.grownBy_alloc _ (.cells (evCells ⟨kb, 0, 0, 0, bs⟩ q m d).toArray 52) none))
            have HRX := Lib.hid (HRXW.out.kept (Kept.of_grown (World.grownBy_alloc _ (.cells (evCells ⟨kb, 0, 0, 0, bs⟩ q m d).toArray 52) none)))
            have HLN := Lib.hid (show Ls.length < 1024 by rw [hLl, HACC.out]; omega)
            have HSB := Lib.hid (Nat.le_trans HNE.out (Nat.le_trans (Nat.le_of_lt BXW.out.lt) (World.grownBy_alloc _ (.cells (evCells ⟨kb, 0, 0, 0, bs⟩ q m d).toArray 52) none).size))
            clear hO hLl hLa
            simp only [evCells] at HO HLA HRE HRX HSB
            go_wp2_with (at_builtin; refine wpList_append_elem (o := ⟨some 65, _, _, _, _, _⟩) rfl _ _ 39 52 rfl Try.underlying39 _ 5 48 info_ev rfl (by decide) HO.out rfl (heap_new_at _ _ _ (by simp [World.setCell])) rfl rfl (ev_one ⟨kb, 0, 0, 0, bs⟩ q m d) (by have := HLN.out; omega) (by have := HLN.out; omega) HSB.out ?_)
            intro g' cap w9 ho hg hk
            have HEV9 := Lib.hid (EvRow.snoc ⟨kb, 0, 0, 0, bs⟩ q m d HO.out HLL.out HLA.out HRX.out HMM.out (fun k hk => HX.out k (by have := HB.out; omega)) hg ho)
            have HR9 := Lib.hid (HRE.out.row hg (fun q hq => by have := (HO.out.lt q hq).1; have := HB.out; exact ⟨by omega, HX.out q (by omega), by omega⟩))
            have HS9 := Lib.hid (Nat.le_trans HSB.out hg.size)
            clear ho hg hk
            go_wp2_with fail
            go_roundw
            case rel =>
              refine ⟨k + 1, _, _, acc ++ [_], by omega, by go_num, by rw [List.length_append, HACC.out]; rfl, HEV9.out, HR9.out, HS9.out, fun h => ?_, fun h => ?_⟩
              · rw [HM.out, HT2.out, decF_cons, if_neg hbk, HEV.out, if_neg (by simpa using h)]
              · rw [HT2.out, decF_cons, if_neg hbk, HEV.out, if_pos h]
            case measure => simp [intOf]; omega
          · rw [decide_eq_false e1] at q1
            by_cases e2 : kb = 2 ∨ kb = 3
            · rw [show (decide (kb = 2) || decide (kb = 3)) = true by simpa using e2] at HNM
              have HEV := Lib.hid (show evR kb rs = (⟨kb, (numR 0 rs 4).1, 0, 0, []⟩, (numR 0 rs 4).2) by unfold evR; rw [if_neg e1, if_pos e2])
              have hxl := numR_less 0 rs 4 (by decide) (by decide)
              obtain ⟨⟨x, y2, l2⟩, hx⟩ : ∃ t, numR 0 rs 4 = t := ⟨_, rfl⟩
              rw [show numR 0 rs ((4 : Nat) : Int) = numR 0 rs 4 from rfl, hx] at hxl
              rw [hx] at HEV
              have hwx : IntKind.u32.wrap (x : Int) = (x : Int) := by simp [IntKind.wrap, IntKind.signed, IntKind.bits]; simp at hxl; omega
              have HXX := Lib.hid hx
              clear e1 e2 hx q7 hxl
              go_wp2_with fail
              refine (HNM.out _).mono ?_
              rintro r w5 ⟨rfl, rfl⟩
              go_wp2_with fail
              have hc := HR3.out.num 4
              simp only at hc
              rw [show numR (0 : Int) rs 4 = _ from HXX.out] at hc
              refine hc.mono ?_
              clear hc
              rintro r w5 ⟨rfl, hR, hg⟩
              have HBX5 := Lib.hid (HBX.out.kept hg (by have := HB.out; have := HNE.out; simp; omega))
              have hbg : bx ≠ g := by have := HB.out; have := HNE.out; omega
              have hXb := HX.out bx (by have := HB.out; have := HNE.out; omega)
              have hwb : w.heap.size ≤ bx := by have := HB.out; have := HNE.out; omega
              have HRW := Lib.hid (hR.set hbg hXb hwb 1 (.int .u32 (x : Int)))
              have HROWW := Lib.hid ((HROW3.out.kept hg HB.out (HX.out g (Nat.le_refl _))).keptN (grown_setCell w5 bx 1 (.int .u32 (x : Int))) HNB.out hXb)
              have HRXW := Lib.hid (RX.nil (w5.setCell ⟨bx, 1, none⟩ (.int .u32 (x : Int))) X none)
              have BXW := Lib.hid (HBX5.out.set 1 (.int .u32 (x : Int)))
              have HMM := Lib.hid (show ([] : List UInt8).length = 0 from rfl)
              clear X4 O4 hR hg hXb
              have X5 := HBX5.out.look
              have O5 := HBX5.out.open
              obtain ⟨Ls, hO, hLl, hLa⟩ := HROWW.out
              have HO := Lib.hid (hO.grown (World.grownBy_alloc _ (.cells (evCells ⟨kb, x, 0, 0, []⟩ none 0 0).toArray 52) none))
              have HLA := Lib.hid (hLa.alloc (.cells (evCells ⟨kb, x, 0, 0, []⟩ none 0 0).toArray 52))
              have HLL := Lib.hid hLl
              have HRE := Lib.hid (HRW.out.grown (World.grownBy_alloc _ (.cells (evCells ⟨kb, x, 0, 0, []⟩ none 0 0).toArray 52) none))
              have HRX := Lib.hid (HRXW.out.kept (Kept.of_grown (World.grownBy_alloc _ (.cells (evCells ⟨kb, x, 0, 0, []⟩ none 0 0).toArray 52) none)))
              have HLN := Lib.hid (show Ls.length < 1024 by rw [hLl, HACC.out]; omega)
              have HSB := Lib.hid (Nat.le_trans HNE.out (Nat.le_trans (Nat.le_of_lt BXW.out.lt) (World.grownBy_alloc _ (.cells (evCells ⟨kb, x, 0, 0, []⟩ none 0 0).toArray 52) none).size))
              clear hO hLl hLa
              simp only [evCells] at HO HLA HRE HRX HSB
              go_wp2_with (at_builtin; refine wpList_append_elem (o := ⟨some 65, _, _, _, _, _⟩) rfl _ _ 39 52 rfl Try.underlying39 _ 5 48 info_ev rfl (by decide) HO.out rfl (heap_new_at _ _ _ (by simp [World.setCell])) rfl rfl (ev_one ⟨kb, x, 0, 0, []⟩ none 0 0) (by have := HLN.out; omega) (by have := HLN.out; omega) HSB.out ?_)
              intro g' cap w9 ho hg hk
              have HEV9 := Lib.hid (EvRow.snoc ⟨kb, x, 0, 0, []⟩ none 0 0 HO.out HLL.out HLA.out HRX.out HMM.out (fun k hk => HX.out k (by have := HB.out; omega)) hg ho)
              have HR9 := Lib.hid (HRE.out.row hg (fun q hq => by have := (HO.out.lt q hq).1; have := HB.out; exact ⟨by omega, HX.out q (by omega), by omega⟩))
              have HS9 := Lib.hid (Nat.le_trans HSB.out hg.size)
              clear ho hg hk
              go_wp2_with fail
              go_roundw
              case rel =>
                refine ⟨k + 1, _, _, acc ++ [_], by omega, by go_num, by rw [List.length_append, HACC.out]; rfl, HEV9.out, HR9.out, HS9.out, fun h => ?_, fun h => ?_⟩
                · rw [HM.out, HT2.out, decF_cons, if_neg hbk, HEV.out, if_neg (by simpa using h)]
                · rw [HT2.out, decF_cons, if_neg hbk, HEV.out, if_pos h]
              case measure => simp [intOf]; omega
            · rw [show (decide (kb = 2) || decide (kb = 3)) = false by simpa using e2] at HNM
              by_cases e7 : kb = 7
              · rw [decide_eq_true e7] at q7
                have HEV := Lib.hid (show evR kb rs = (⟨kb, 0, (numR 0 rs 2).1, (numR (numR 0 rs 2).2.1 (numR 0 rs 2).2.2 2).1, []⟩, (numR (numR 0 rs 2).2.1 (numR 0 rs 2).2.2 2).2) by unfold evR; rw [if_neg e1, if_neg e2, if_pos e7])
                have hxl := numR_less 0 rs 2 (by decide) (by decide)
                obtain ⟨⟨x, y2, l2⟩, hx⟩ : ∃ t, numR 0 rs 2 = t := ⟨_, rfl⟩
                rw [show numR 0 rs ((2 : Nat) : Int) = numR 0 rs 2 from rfl, hx] at hxl
                rw [hx] at HEV
                simp only at HEV
                have hzl := numR_less y2 l2 2 (by decide) (by decide)
                obtain ⟨⟨z, y3, l3⟩, hz⟩ : ∃ t, numR y2 l2 2 = t := ⟨_, rfl⟩
                rw [show numR y2 l2 ((2 : Nat) : Int) = numR y2 l2 2 from rfl, hz] at hzl
                rw [hz] at HEV
                simp only at hxl hzl
                have hwx : IntKind.i64.wrap (x : Int) = (x : Int) := IntWalk.i64_in _ (by omega)
                have hwz : IntKind.i64.wrap (z : Int) = (z : Int) := IntWalk.i64_in _ (by omega)
                have HXX := Lib.hid hx
                have HZZ := Lib.hid hz
                clear e1 e2 e7 hx hz hxl hzl
                go_wp2_with fail
                refine (HNM.out _).mono ?_
                rintro r w5 ⟨rfl, rfl⟩
                go_wp2_with fail
                have hc := HR3.out.num 2
                simp only at hc
                rw [show numR (0 : Int) rs 2 = _ from HXX.out] at hc
                refine hc.mono ?_
                clear hc
                rintro r w5 ⟨rfl, hR, hg⟩
                have HBX5 := Lib.hid (HBX.out.kept hg (by have := HB.out; have := HNE.out; simp; omega))
                have HROW5 := Lib.hid (HROW3.out.kept hg HB.out (HX.out g (Nat.le_refl _)))
                have HR5 := Lib.hid hR
                clear X4 O4 hR hg
                go_wp2_with fail
                have hc := HR5.out.num 2
                simp only at hc
                rw [show numR y2 l2 2 = _ from HZZ.out] at hc
                refine hc.mono ?_
                clear hc
                rintro r w6 ⟨rfl, hR, hg⟩
                have HBX6 := Lib.hid (HBX5.out.kept hg (by have := HB.out; have := HNE.out; simp; omega))
                have hbg : bx ≠ g := by have := HB.out; have := HNE.out; omega
                have hXb := HX.out bx (by have := HB.out; have := HNE.out; omega)
                have hwb : w.heap.size ≤ bx := by have := HB.out; have := HNE.out; omega
                have HRW := Lib.hid ((hR.set hbg hXb hwb 2 (.int .i64 (x : Int))).set hbg hXb hwb 3 (.int .i64 (z : Int)))
                have HROWW := Lib.hid (((HROW5.out.kept hg HB.out (HX.out g (Nat.le_refl _))).keptN (grown_setCell w6 bx 2 (.int .i64 (x : Int))) HNB.out hXb).keptN (grown_setCell _ bx 3 (.int .i64 (z : Int))) HNB.out hXb)
                have HRXW := Lib.hid (RX.nil ((w6.setCell ⟨bx, 2, none⟩ (.int .i64 (x : Int))).setCell ⟨bx, 3, none⟩ (.int .i64 (z : Int))) X none)
                have BXW := Lib.hid ((HBX6.out.set 2 (.int .i64 (x : Int))).set 3 (.int .i64 (z : Int)))
                have HMM := Lib.hid (show ([] : List UInt8).length = 0 from rfl)
                clear hR hg hXb
                have X6 := HBX6.out.look
                have O6 := HBX6.out.open
                obtain ⟨Ls, hO, hLl, hLa⟩ := HROWW.out
                have HO := Lib.hid (hO.grown (World.grownBy_alloc _ (.cells (evCells ⟨kb, 0, (x : Int), (z : Int), []⟩ none 0 0).toArray 52) none))
                have HLA := Lib.hid (hLa.alloc (.cells (evCells ⟨kb, 0, (x : Int), (z : Int), []⟩ none 0 0).toArray 52))
                have HLL := Lib.hid hLl
                have HRE := Lib.hid (HRW.out.grown (World.grownBy_alloc _ (.cells (evCells ⟨kb, 0, (x : Int), (z : Int), []⟩ none 0 0).toArray 52) none))
                have HRX := Lib.hid (HRXW.out.kept (Kept.of_grown (World.grownBy_alloc _ (.cells (evCells ⟨kb, 0, (x : Int), (z : Int), []⟩ none 0 0).toArray 52) none)))
                have HLN := Lib.hid (show Ls.length < 1024 by rw [hLl, HACC.out]; omega)
                have HSB := Lib.hid (Nat.le_trans HNE.out (Nat.le_trans (Nat.le_of_lt BXW.out.lt) (World.grownBy_alloc _ (.cells (evCells ⟨kb, 0, (x : Int), (z : Int), []⟩ none 0 0).toArray 52) none).size))
                clear hO hLl hLa
                simp only [evCells] at HO HLA HRE HRX HSB
                go_wp2_with (at_builtin; refine wpList_append_elem (o := ⟨some 65, _, _, _, _, _⟩) rfl _ _ 39 52 rfl Try.underlying39 _ 5 48 info_ev rfl (by decide) HO.out rfl (heap_new_at _ _ _ (by simp [World.setCell])) rfl rfl (ev_one ⟨kb, 0, (x : Int), (z : Int), []⟩ none 0 0) (by have := HLN.out; omega) (by have := HLN.out; omega) HSB.out ?_)
                intro g' cap w9 ho hg hk
                have HEV9 := Lib.hid (EvRow.snoc ⟨kb, 0, (x : Int), (z : Int), []⟩ none 0 0 HO.out HLL.out HLA.out HRX.out HMM.out (fun k hk => HX.out k (by have := HB.out; omega)) hg ho)
                have HR9 := Lib.hid (HRE.out.row hg (fun q hq => by have := (HO.out.lt q hq).1; have := HB.out; exact ⟨by omega, HX.out q (by omega), by omega⟩))
                have HS9 := Lib.hid (Nat.le_trans HSB.out hg.size)
                clear ho hg hk
                go_wp2_with fail
                go_roundw
                case rel =>
                  refine ⟨k + 1, _, _, acc ++ [_], by omega, by go_num, by rw [List.length_append, HACC.out]; rfl, HEV9.out, HR9.out, HS9.out, fun h => ?_, fun h => ?_⟩
                  · rw [HM.out, HT2.out, decF_cons, if_neg hbk, HEV.out, if_neg (by simpa using h)]
                  · rw [HT2.out, decF_cons, if_neg hbk, HEV.out, if_pos h]
                case measure => simp [intOf]; omega
              · rw [decide_eq_false e7] at q7
                have HEV := Lib.hid (show evR kb rs = (⟨kb, 0, 0, 0, []⟩, 0, rs) by unfold evR; rw [if_neg e1, if_neg e2, if_neg e7])
                have HRW := Lib.hid HR3.out
                have HROWW := Lib.hid HROW3.out
                have HRXW := Lib.hid (RX.nil w4 X none)
                have BXW := Lib.hid HBX.out
                have HMM := Lib.hid (show ([] : List UInt8).length = 0 from rfl)
                clear e1 e2 e7
                go_wp2_with fail
                refine (HNM.out _).mono ?_
                rintro r w5 ⟨rfl, rfl⟩
                obtain ⟨Ls, hO, hLl, hLa⟩ := HROWW.out
                have HO := Lib.hid (hO.grown (World.grownBy_alloc _ (.cells (evCells ⟨kb, 0, 0, 0, []⟩ none 0 0).toArray 52) none))
                have HLA := Lib.hid (hLa.alloc (.cells (evCells ⟨kb, 0, 0, 0, []⟩ none 0 0).toArray 52))
                have HLL := Lib.hid hLl
                have HRE := Lib.hid (HRW.out.grown (World.grownBy_alloc _ (.cells (evCells ⟨kb, 0, 0, 0, []⟩ none 0 0).toArray 52) none))
                have HRX := Lib.hid (HRXW.out.kept (Kept.of_grown (World.grownBy_alloc _ (.cells (evCells ⟨kb, 0, 0, 0, []⟩ none 0 0).toArray 52) none)))
                have HLN := Lib.hid (show Ls.length < 1024 by rw [hLl, HACC.out]; omega)
                have HSB := Lib.hid (Nat.le_trans HNE.out (Nat.le_trans (Nat.le_of_lt BXW.out.lt) (World.grownBy_alloc _ (.cells (evCells ⟨kb, 0, 0, 0, []⟩ none 0 0).toArray 52) none).size))
                clear hO hLl hLa
                simp only [evCells] at HO HLA HRE HRX HSB
                go_wp2_with (at_builtin; refine wpList_append_elem (o := ⟨some 65, _, _, _, _, _⟩) rfl _ _ 39 52 rfl Try.underlying39 _ 5 48 info_ev rfl (by decide) HO.out rfl (heap_new_at _ _ _ (by simp)) rfl rfl (ev_one ⟨kb, 0, 0, 0, []⟩ none 0 0) (by have := HLN.out; omega) (by have := HLN.out; omega) HSB.out ?_)
                intro g' cap w9 ho hg hk
                have HEV9 := Lib.hid (EvRow.snoc ⟨kb, 0, 0, 0, []⟩ none 0 0 HO.out HLL.out HLA.out HRX.out HMM.out (fun k hk => HX.out k (by have := HB.out; omega)) hg ho)
                have HR9 := Lib.hid (HRE.out.row hg (fun q hq => by have := (HO.out.lt q hq).1; have := HB.out; exact ⟨by omega, HX.out q (by omega), by omega⟩))
                have HS9 := Lib.hid (Nat.le_trans HSB.out hg.size)
                clear ho hg hk
                go_wp2_with fail
                go_roundw
                case rel =>
                  refine ⟨k + 1, _, _, acc ++ [_], by omega, by go_num, by rw [List.length_append, HACC.out]; rfl, HEV9.out, HR9.out, HS9.out, fun h => ?_, fun h => ?_⟩
                  · rw [HM.out, HT2.out, decF_cons, if_neg hbk, HEV.out, if_neg (by simp)]
                  · rw [HT2.out, decF_cons, if_neg hbk, HEV.out, if_pos h]
                case measure => simp [intOf]; omega
    · obtain rfl : k = N := by omega
      rw [Nat.sub_self] at HT0
      have HEND := Lib.hid (show endR e l1 = T.2 by
        by_cases he : e = 0
        · rw [HT0.out he]
          subst he
          unfold endR decF
          cases l1 <;> simp
        · rw [HT1.out he, endR_ill he])
      go_wp2_with fail
      refine HR.out.end'.mono ?_
      rintro r w4 ⟨rfl, rfl⟩
      simp only
      rw [HEND.out]
      by_cases h2 : T.2 = 0
      · have HT2 := Lib.hid (show T = (acc, 0) by
          by_cases he : e = 0
          · have h := HT0.out he
            unfold decF at h
            by_cases hl : l1 = []
            · rw [if_pos hl] at h; exact h
            · rw [if_neg hl] at h; rw [h] at h2; cases h2
          · have h := HT1.out he
            rw [h] at h2
            exact absurd h2 he)
        rw [h2]
        obtain ⟨Ls, hO, _⟩ := id HROW.out
        obtain ⟨ra, rc, hru⟩ := hO.len
        subst hru
        have HLST := Lib.hid HROW.out.list
        clear hO h2
        go_wp2_with fail
        go_ret2
        rw [HT2.out]
        exact ⟨ra, Ls.length, rc, rfl, HLST.out.2, HLST.out.1, HR.out.gr⟩
      · have HT2 := Lib.hid (show T = ([], T.2) by
          by_cases he : e = 0
          · have h := HT0.out he
            unfold decF at h
            by_cases hl : l1 = []
            · rw [if_pos hl] at h; rw [h] at h2; exact absurd rfl h2
            · rw [if_neg hl] at h; rw [h]
          · rw [HT1.out he])
        obtain ⟨x2, hx2⟩ : ∃ x2, T.2 = x2 := ⟨_, rfl⟩
        rw [hx2] at h2 HT2 ⊢
        have h2' : (x2 == 0) = false := by simpa using h2
        have h2'' : (x2 != 0) = true := by simpa using h2
        clear h2 hx2
        go_wp2_with fail
        go_ret2
        rw [HT2.out]
        exact ⟨none, 0, 0, rfl, rfl, fun i h => absurd h (by simp), HR.out.gr⟩

end Go.Proofs.Ytomnhgcjdnhijaa
