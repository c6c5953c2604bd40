/-
  The walk through the document's 'Decode' of events.
-/
import Derived.Test.YtomnhgcjdnhijaaScriptREv
import Derived.Deep.QuietTactic
import Derived.BigQuiet
namespace Go.Proofs.Ytomnhgcjdnhijaa
open Go.RowKit
set_option maxRecDepth 100000

theorem ref_step {T : List EvP × Int} {M : Nat} {l : List UInt8} {acc : List EvP} (h : T = decF (M + 1) l acc) :
    ((evG l).2.1 = 0 → T = decF M (evG l).2.2 (acc ++ [(evG l).1])) ∧ ((evG l).2.1 ≠ 0 → T = ([], (evG l).2.1)) := by
  cases l with
  | nil => exact ⟨(fun h => by cases h), fun _ => h⟩
  | cons k r =>
    rw [decF_cons] at h
    by_cases hk : k.toNat < 1 ∨ 8 < k.toNat
    · rw [if_pos hk] at h
      have e : evG (k :: r) = (⟨k, 0, 0, 0, []⟩, 8, r) := by unfold evG; simp only; rw [if_pos hk]
      rw [e]
      exact ⟨(fun h => by cases h), fun _ => h⟩
    · rw [if_neg hk] at h
      obtain ⟨e1, e2⟩ := evG_evR (r := r) hk
      constructor
      · intro h0
        rw [e1] at h0
        rw [e2 h0]
        rw [if_neg (by simpa using h0)] at h
        exact h
      · intro h0
        rw [e1] at h0 ⊢
        rw [if_pos h0] at h
        exact h
def RDecRel (w : World) (B g : Nat) (T : List EvP × Int) (N : Nat) (v i : Value) (wr : World) : Prop :=
  ∃ (k : Nat) (e : Int) (l : List UInt8) (acc : List EvP), k ≤ N ∧ i = .int .i64 k ∧ acc.length = k ∧ EvRow wr B (fun k => w.heap.size ≤ k) v acc ∧ RR w wr g (e, l) ∧ B ≤ wr.heap.size ∧ (e = 0 → T = decF (N - k) l acc) ∧ (e ≠ 0 → T = ([], e))

set_option maxHeartbeats 3200000 in
theorem ref_decodeE (a : Option Addr) (n c : Nat) (l : List UInt8) (w : World) (hn : l.length = n) (hr : RB w a l) (hc : n ≤ c) (hm : c ≤ maxLen) :
    Calls Try.prog 22 #[.slice a n c] w (DecEPost w (decE l)) := by
  have HR0 := Lib.hid (RR.new (w := w) (a := a) hn hc hm hr)
  obtain ⟨T, hT⟩ : ∃ T, decE l = T := ⟨_, rfl⟩
  rw [hT]
  obtain ⟨N, e0, l0, hnum, hN, hd0, hd1⟩ : ∃ N e0 l0, numF 0 l 2 = (N, e0, l0) ∧ N < 65536 ∧ (e0 = 0 → T = if 1024 < N then ([], 7) else decF N l0 []) ∧ (e0 ≠ 0 → N = 0 ∧ T = ([], e0)) := by
    rw [show numF 0 l 2 = _ from num_same (n := 2) (by decide) (by decide)]
    by_cases h2 : l.length < 2
    · rw [numR_short (n := 2) (by decide) (by decide) h2]
      refine ⟨0, 6, [], rfl, by decide, fun h => absurd h (by decide), fun _ => ⟨rfl, ?_⟩⟩
      rw [← hT]; unfold decE; rw [if_pos h2]
    · rw [numR_fit (n := 2) (by decide) (by decide) (by omega)]
      refine ⟨valN (l.take 2), 0, l.drop 2, rfl, valN_take_lt l 2, fun _ => ?_, fun h => absurd rfl h⟩
      rw [← hT]; unfold decE; rw [if_neg h2]
  have hwN : IntKind.i64.wrap (N : Int) = (N : Int) := IntWalk.i64_in _ (by omega)
  have HD0 := Lib.hid hd0; have HD1 := Lib.hid hd1; have HN := Lib.hid hnum
  clear hn hr hm hc hT hnum hd0 hd1
  have hc := HR0.out.num 2
  simp only at hc
  rw [show numF (0 : Int) l 2 = _ from HN.out] at hc
  have HC := Lib.hid hc
  clear hc
  go_enter Try.func22, Try.ntmps22
  go_wp2_with fail
  refine HC.out.mono ?_
  rintro r w1 ⟨rfl, hR, _⟩
  have HR1 := Lib.hid hR
  obtain ⟨ra, rn, rc, RW, RO⟩ := hR.look
  have hlow := hR.low
  have HB := Lib.hid hR.lt
  clear hR
  by_cases hlong : e0 = 0 ∧ 1024 < N
  · obtain ⟨rfl, h1024⟩ := hlong
    have h1024' : (1024 : Int) < (N : Int) := by omega
    have HTT := Lib.hid (show T = ([], 7) by rw [HD0.out rfl, if_pos h1024])
    go_wp2_with fail
    go_ret2
    rw [HTT.out]
    exact ⟨none, 0, 0, rfl, rfl, fun i h => absurd h (by simp), HR1.out.gr⟩
  have HLG := Lib.hid hlong
  have htest : ∃ b, (e0 == 0) = b ∧ (b = true → (N : Int) ≤ 1024) := ⟨_, rfl, fun h => by
    have h0 : e0 = 0 := by simpa using h
    have : ¬ 1024 < N := fun h1 => hlong ⟨h0, h1⟩
    omega⟩
  obtain ⟨b, hb, hbN⟩ := htest
  have hN1024 : N ≤ 1024 := by
    by_cases h0 : e0 = 0
    · have : ¬ 1024 < N := fun h1 => hlong ⟨h0, h1⟩
      omega
    · have := (HD1.out h0).1; omega
  clear hlong
  cases b
  rotate_left 1
  · have hbN' := hbN rfl
    clear hbN
    go_wp2_with fail
    go_loopw [6, 7] (fun v i wr => RDecRel w w1.heap.size w.heap.size T N v i wr) (fun _ i _ => N - (intOf i).toNat)
    case atStart =>
      refine ⟨0, e0, l0, [], Nat.zero_le _, rfl, rfl, EvRow.nil _ _ _, HR1.out, Nat.le_refl _, fun h => ?_, fun h => (HD1.out h).2⟩
      rw [HD0.out h, if_neg (fun h1 => HLG.out ⟨h, h1⟩)]
      rfl
    case round =>
      obtain ⟨k, e, l1, acc, hk, rfl, hacc, hrow, hR, hsz, ht0, ht1⟩ := hrel
      have HROW := Lib.hid hrow; have HR := Lib.hid hR; have HACC := Lib.hid hacc
      have HT0 := Lib.hid ht0; have HT1 := Lib.hid ht1
      have HSZ := Lib.hid hsz
      obtain ⟨sa, sn, sc, SW, SO⟩ := hR.look
      have HSL := Lib.hid (show l1.length = sn by
        obtain ⟨a', n', c', hb', hr'⟩ := hR.at'
        have := SW 0
        rw [hb'.look 0] at this
        cases this
        exact hr'.len)
      clear hrow hR hacc ht0 ht1 hsz
      by_cases hgo : k < N ∧ e = 0
      · obtain ⟨hlt, rfl⟩ := hgo
        obtain ⟨M, hM⟩ : ∃ M, N - k = M + 1 := ⟨N - k - 1, by omega⟩
        rw [hM] at HT0
        have HM := Lib.hid (show N - (k + 1) = M by omega)
        have HST := Lib.hid (ref_step (HT0.out rfl))
        clear hM
        have HCE := Lib.hid HR.out.event
        obtain ⟨⟨E, e2, l2⟩, hE⟩ : ∃ t, evG l1 = t := ⟨_, rfl⟩
        rw [hE] at HCE HST
        have HEE := Lib.hid hE
        clear hE
        go_wp2_with fail
        refine HCE.out.mono ?_
        rintro r w3 ⟨q, m, d, rfl, hm, hrx, hR, hg⟩
        have hrow3 := HROW.out.kept hg HB.out (Nat.le_refl _)
        obtain ⟨Ls, hO, hLl, hLa⟩ := hrow3
        have HO := Lib.hid (hO.grown (World.grownBy_alloc _ (.cells (evCells E q m d).toArray 52) none))
        have HLA := Lib.hid (hLa.alloc (.cells (evCells E q m d).toArray 52))
        have HLL := Lib.hid hLl
        have HRE := Lib.hid (hR.grown (World.grownBy_alloc _ (.cells (evCells E q m d).toArray 52) none))
        have HRX := Lib.hid (hrx.kept (Kept.of_grown (World.grownBy_alloc _ (.cells (evCells E q m d).toArray 52) none)))
        have HLN := Lib.hid (show Ls.length < 1024 by rw [hLl, HACC.out]; omega)
        have HSB := Lib.hid (Nat.le_trans HSZ.out (Nat.le_trans hg.size (World.grownBy_alloc _ (.cells (evCells E q m d).toArray 52) none).size))
        have HMM := Lib.hid hm
        clear hO hLl hLa hm hrx hR hg SW SO
        simp only [evCells] at HO HLA HRE HRX HSB
        go_wp2_with (at_builtin; refine wpList_append_elem (o := ⟨some 39, _, _, _, _, _⟩) rfl _ _ 39 52 rfl Try.underlying39 _ 5 48 info_ev rfl (by decide) HO.out rfl (heap_new_at _ _ _ (by simp)) rfl rfl (ev_one E q m d) (by have := HLN.out; omega) (by have := HLN.out; omega) HSB.out ?_)
        intro g' cap w9 ho hg hk
        have HEV9 := Lib.hid (EvRow.snoc E q m d HO.out HLL.out HLA.out HRX.out HMM.out (fun k hk => by have := HB.out; omega) hg ho)
        have HR9 := Lib.hid (HRE.out.row hg (fun q hq => by have := (HO.out.lt q hq).1; have := HB.out; exact ⟨by omega, by omega⟩))
        have HS9 := Lib.hid (Nat.le_trans HSB.out hg.size)
        clear ho hg hk
        go_wp2_with fail
        go_roundw
        case rel =>
          refine ⟨k + 1, e2, l2, acc ++ [E], by omega, by go_num, by rw [List.length_append, HACC.out]; rfl, HEV9.out, HR9.out, HS9.out, fun h => ?_, fun h => HST.out.2 h⟩
          rw [HM.out]
          exact HST.out.1 h
        case measure => simp [intOf]; omega
      · have hstop : (k < N ∧ (e == 0) = false) ∨ k = N := by
          by_cases h1 : k < N
          · exact .inl ⟨h1, by simpa using (fun h => hgo ⟨h1, h⟩)⟩
          · exact .inr (by omega)
        clear hgo
        by_cases he : e = 0
        · subst he
          obtain rfl : k = N := by
            rcases hstop with ⟨_, h⟩ | h
            · cases h
            · exact h
          clear hstop
          rw [Nat.sub_self] at HT0
          have ht := HT0.out rfl
          unfold decF at ht
          by_cases hl : l1 = []
          · have hsn : sn = 0 := by rw [← HSL.out, hl]; rfl
            subst hsn
            rw [if_pos hl] at ht
            have HT2 := Lib.hid ht
            obtain ⟨Ls, hO, hz⟩ := id HROW.out
            obtain ⟨xa, xc, hru⟩ := hO.len
            subst hru
            have HLST := Lib.hid HROW.out.list
            clear hO ht hl hz
            go_wp2_with fail
            go_ret2
            rw [HT2.out]
            exact ⟨xa, Ls.length, xc, rfl, HLST.out.2, HLST.out.1, HR.out.gr⟩
          · have hsn : 0 < sn := by rw [← HSL.out]; exact List.length_pos_iff.2 hl
            rw [if_neg hl] at ht
            have HT2 := Lib.hid ht
            have hsn' : (0 : Int) < (sn : Int) := by omega
            clear ht hl
            go_wp2_with fail
            go_ret2
            rw [HT2.out]
            exact ⟨none, 0, 0, rfl, rfl, fun i h => absurd h (by simp), HR.out.gr⟩
        · have HT2 := Lib.hid (HT1.out he)
          have he1 : (e == 0) = false := by simpa using he
          have he2 : (e != 0) = true := by simpa using he
          have hkN : k < N ∨ k = N := by omega
          clear he hstop
          rcases hkN with hlt | rfl
          all_goals (
            go_wp2_with fail
            go_quiet (fail)
            go_wp2_with fail
            go_ret2
            rw [HT2.out]
            exact ⟨none, 0, 0, rfl, rfl, fun i h => absurd h (by simp), grown_trans HR.out.gr (grown_drewN _ _)⟩)
  · clear hbN
    go_wp2_with fail
    go_loopw [6, 7] (fun v i wr => RDecRel w w1.heap.size w.heap.size T N v i wr) (fun _ i _ => N - (intOf i).toNat)
    case atStart =>
      refine ⟨0, e0, l0, [], Nat.zero_le _, rfl, rfl, EvRow.nil _ _ _, HR1.out, Nat.le_refl _, fun h => ?_, fun h => (HD1.out h).2⟩
      rw [HD0.out h, if_neg (fun h1 => HLG.out ⟨h, h1⟩)]
      rfl
    case round =>
      obtain ⟨k, e, l1, acc, hk, rfl, hacc, hrow, hR, hsz, ht0, ht1⟩ := hrel
      have HROW := Lib.hid hrow; have HR := Lib.hid hR; have HACC := Lib.hid hacc
      have HT0 := Lib.hid ht0; have HT1 := Lib.hid ht1
      have HSZ := Lib.hid hsz
      obtain ⟨sa, sn, sc, SW, SO⟩ := hR.look
      have HSL := Lib.hid (show l1.length = sn by
        obtain ⟨a', n', c', hb', hr'⟩ := hR.at'
        have := SW 0
        rw [hb'.look 0] at this
        cases this
        exact hr'.len)
      clear hrow hR hacc ht0 ht1 hsz
      by_cases hgo : k < N ∧ e = 0
      · obtain ⟨hlt, rfl⟩ := hgo
        obtain ⟨M, hM⟩ : ∃ M, N - k = M + 1 := ⟨N - k - 1, by omega⟩
        rw [hM] at HT0
        have HM := Lib.hid (show N - (k + 1) = M by omega)
        have HST := Lib.hid (ref_step (HT0.out rfl))
        clear hM
        have HCE := Lib.hid HR.out.event
        obtain ⟨⟨E, e2, l2⟩, hE⟩ : ∃ t, evG l1 = t := ⟨_, rfl⟩
        rw [hE] at HCE HST
        have HEE := Lib.hid hE
        clear hE
        go_wp2_with fail
        refine HCE.out.mono ?_
        rintro r w3 ⟨q, m, d, rfl, hm, hrx, hR, hg⟩
        have hrow3 := HROW.out.kept hg HB.out (Nat.le_refl _)
        obtain ⟨Ls, hO, hLl, hLa⟩ := hrow3
        have HO := Lib.hid (hO.grown (World.grownBy_alloc _ (.cells (evCells E q m d).toArray 52) none))
        have HLA := Lib.hid (hLa.alloc (.cells (evCells E q m d).toArray 52))
        have HLL := Lib.hid hLl
        have HRE := Lib.hid (hR.grown (World.grownBy_alloc _ (.cells (evCells E q m d).toArray 52) none))
        have HRX := Lib.hid (hrx.kept (Kept.of_grown (World.grownBy_alloc _ (.cells (evCells E q m d).toArray 52) none)))
        have HLN := Lib.hid (show Ls.length < 1024 by rw [hLl, HACC.out]; omega)
        have HSB := Lib.hid (Nat.le_trans HSZ.out (Nat.le_trans hg.size (World.grownBy_alloc _ (.cells (evCells E q m d).toArray 52) none).size))
        have HMM := Lib.hid hm
        clear hO hLl hLa hm hrx hR hg SW SO
        simp only [evCells] at HO HLA HRE HRX HSB
        go_wp2_with (at_builtin; refine wpList_append_elem (o := ⟨some 39, _, _, _, _, _⟩) rfl _ _ 39 52 rfl Try.underlying39 _ 5 48 info_ev rfl (by decide) HO.out rfl (heap_new_at _ _ _ (by simp)) rfl rfl (ev_one E q m d) (by have := HLN.out; omega) (by have := HLN.out; omega) HSB.out ?_)
        intro g' cap w9 ho hg hk
        have HEV9 := Lib.hid (EvRow.snoc E q m d HO.out HLL.out HLA.out HRX.out HMM.out (fun k hk => by have := HB.out; omega) hg ho)
        have HR9 := Lib.hid (HRE.out.row hg (fun q hq => by have := (HO.out.lt q hq).1; have := HB.out; exact ⟨by omega, by omega⟩))
        have HS9 := Lib.hid (Nat.le_trans HSB.out hg.size)
        clear ho hg hk
        go_wp2_with fail
        go_roundw
        case rel =>
          refine ⟨k + 1, e2, l2, acc ++ [E], by omega, by go_num, by rw [List.length_append, HACC.out]; rfl, HEV9.out, HR9.out, HS9.out, fun h => ?_, fun h => HST.out.2 h⟩
          rw [HM.out]
          exact HST.out.1 h
        case measure => simp [intOf]; omega
      · have hstop : (k < N ∧ (e == 0) = false) ∨ k = N := by
          by_cases h1 : k < N
          · exact .inl ⟨h1, by simpa using (fun h => hgo ⟨h1, h⟩)⟩
          · exact .inr (by omega)
        clear hgo
        by_cases he : e = 0
        · subst he
          obtain rfl : k = N := by
            rcases hstop with ⟨_, h⟩ | h
            · cases h
            · exact h
          clear hstop
          rw [Nat.sub_self] at HT0
          have ht := HT0.out rfl
          unfold decF at ht
          by_cases hl : l1 = []
          · have hsn : sn = 0 := by rw [← HSL.out, hl]; rfl
            subst hsn
            rw [if_pos hl] at ht
            have HT2 := Lib.hid ht
            obtain ⟨Ls, hO, hz⟩ := id HROW.out
            obtain ⟨xa, xc, hru⟩ := hO.len
            subst hru
            have HLST := Lib.hid HROW.out.list
            clear hO ht hl hz
            go_wp2_with fail
            go_ret2
            rw [HT2.out]
            exact ⟨xa, Ls.length, xc, rfl, HLST.out.2, HLST.out.1, HR.out.gr⟩
          · have hsn : 0 < sn := by rw [← HSL.out]; exact List.length_pos_iff.2 hl
            rw [if_neg hl] at ht
            have HT2 := Lib.hid ht
            have hsn' : (0 : Int) < (sn : Int) := by omega
            clear ht hl
            go_wp2_with fail
            go_ret2
            rw [HT2.out]
            exact ⟨none, 0, 0, rfl, rfl, fun i h => absurd h (by simp), HR.out.gr⟩
        · have HT2 := Lib.hid (HT1.out he)
          have he1 : (e == 0) = false := by simpa using he
          have he2 : (e != 0) = true := by simpa using he
          have hkN : k < N ∨ k = N := by omega
          clear he hstop
          rcases hkN with hlt | rfl
          all_goals (
            go_wp2_with fail
            go_quiet (fail)
            go_wp2_with fail
            go_ret2
            rw [HT2.out]
            exact ⟨none, 0, 0, rfl, rfl, fun i h => absurd h (by simp), grown_trans HR.out.gr (grown_drewN _ _)⟩)

end Go.Proofs.Ytomnhgcjdnhijaa
