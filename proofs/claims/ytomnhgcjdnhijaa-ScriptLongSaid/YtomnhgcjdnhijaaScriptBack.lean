/-
  ScriptBack.
-/
import Derived.Test.YtomnhgcjdnhijaaScriptBytes
namespace Go.Proofs.Ytomnhgcjdnhijaa
open Go.RowKit
set_option maxRecDepth 100000

theorem enc_ok_law {L : List EvP} {lb : List UInt8} (h : encE L = (lb, 0)) (ok : ∀ e ∈ L, e.ok) : decE lb = (L, 0) ∧ lb.length ≤ 2 + 1024 * 515 := by
  unfold encE at h
  by_cases hg : L.all EvP.good = true
  · rw [if_pos hg] at h
    by_cases hl : 1024 < L.length
    · rw [if_pos hl] at h; cases h
    · rw [if_neg hl] at h
      cases h
      refine ⟨dec_encE hg ok (by omega), ?_⟩
      have := allB_len L hg
      rw [List.length_append, numB_length]
      have h2 : L.length * 515 ≤ 1024 * 515 := Nat.mul_le_mul_right _ (by omega)
      omega
  · rw [if_neg hg] at h; cases h
def GoodRel (w : World) (n : Nat) (i : Value) (wr : World) : Prop := ∃ k : Nat, k ≤ n ∧ i = .int .i64 k ∧ w.grownBy wr none

set_option maxHeartbeats 3200000 in
theorem scriptBack_walk (a : Option Addr) (n c : Nat) (L : List EvP) (a' : Option Addr) (len cap : Nat) (l0 : List UInt8) (w : World) (hE : EvList w a L) (hn : L.length = n) (hm : n ≤ maxLen) (ok : ∀ e ∈ L, e.ok) (hb : InB w a' len cap l0) :
    Calls Try.prog 5 #[.slice a n c, .slice a' len cap] w fun r w' => r = .returned (.bool true) ∧ Below w.heap.size w w' := by
  obtain ⟨k, hk, hk6, _, hmin⟩ := min_any len 6000 (by decide)
  obtain ⟨hbl, hbr, hbc⟩ := hb.cut hk
  have h1 := hb.cap_le
  have hmx := hb.max
  generalize l0.take k = l at *
  have i0 : (0 : Int) ≤ (k : Int) := by omega
  have i1 : (k : Int) ≤ (len : Int) := by omega
  have i2 : (k : Int) ≤ (cap : Int) := by omega
  have hk6' : k ≤ 6000 := by omega
  have HF := Lib.hid (few_events a n c L w hE hn hm)
  have HE := Lib.hid (fun u (hg : w.grownBy u none) => script_encode a n c L u (hE.grown hg) hn ok hm)
  have HD := Lib.hid (fun u (hg : w.grownBy u none) => script_decode a' k cap l u hbl (hbr.old (grown_below hg)) (by omega))
  obtain ⟨⟨lb, eb⟩, he⟩ : ∃ t, encE L = t := ⟨_, rfl⟩
  obtain ⟨⟨M, ed⟩, hd⟩ : ∃ t, decE l = t := ⟨_, rfl⟩
  have HML := Lib.hid (dec_few l)
  rw [he] at HE
  rw [hd] at HD HML
  have HLB := Lib.hid he; have HLD := Lib.hid hd; have HOK := Lib.hid ok; have HEL := Lib.hid hE; have HNL := Lib.hid hn; have HBR := Lib.hid hbr; have HBL := Lib.hid hbl
  have SL := strB_list
  have hnm : n ≤ 9223372036854775807 := hm
  clear hE hn ok hb hbl hbr hbc hk6 hmx he hd h1
  go_enter Try.func5, Try.ntmps5
  go_wp2_with fail
  refine HF.out.mono ?_
  rintro r w1 ⟨fw, rfl, hg1, _⟩
  have HG1 := Lib.hid hg1
  clear hg1
  have hcase : fw = false ∨ (fw = true ∧ (200 : Int) < (n : Int)) ∨ (fw = true ∧ (n : Int) ≤ 200) := by
    cases fw
    · exact .inl rfl
    · rcases Nat.lt_or_ge 200 n with h | h
      · exact .inr (.inl ⟨rfl, by omega⟩)
      · exact .inr (.inr ⟨rfl, by omega⟩)
  rcases hcase with rfl | ⟨rfl, h2⟩ | ⟨rfl, h2⟩
  · go_wp2_with fail
    refine (script_works _).mono ?_
    rintro r w2 ⟨rfl, hg2⟩
    have HG2 := Lib.hid (grown_trans HG1.out hg2)
    clear hg2
    go_wp2_with fail
    go_ret
    exact ⟨rfl, grown_below HG2.out⟩
  · go_wp2_with fail
    refine (script_works _).mono ?_
    rintro r w2 ⟨rfl, hg2⟩
    have HG2 := Lib.hid (grown_trans HG1.out hg2)
    clear hg2
    go_wp2_with fail
    go_ret
    exact ⟨rfl, grown_below HG2.out⟩
  · go_wp2_with fail
    refine (HE.out _ HG1.out).mono ?_
    rintro r w2 ⟨a2, n2, c2, rfl, hn2, hr2, hg2⟩
    have HN2 := Lib.hid hn2; have HR2 := Lib.hid hr2
    have hgA := grown_trans HG1.out hg2
    have HGA := Lib.hid hgA
    clear hn2 hr2 hg2
    go_upto_if 34 with (fail)
    go_cut [] (fun wx => w.grownBy wx none)
    case first =>
      clear hgA
      by_cases heb : eb = 0
      · subst heb
        have hlaw := enc_ok_law HLB.out HOK.out
        have HDL := Lib.hid (script_decode a2 n2 c2 lb w2 HN2.out HR2.out (by rw [← HN2.out]; omega))
        rw [hlaw.1] at HDL
        clear hlaw
        go_wp2_with fail
        refine HDL.out.mono ?_
        rintro r w3 ⟨a3, n3, c3, rfl, hn3, hl3, hg3⟩
        obtain rfl : n3 = n := hn3.symm.trans HNL.out
        have HSA := Lib.hid (ref_sameAll a3 n3 c3 a c L w3 hl3 (HEL.out.grown (grown_trans HGA.out hg3)) HNL.out hm)
        have HG3 := Lib.hid (grown_trans HGA.out hg3)
        clear hn3 hl3 hg3
        go_wp2_with fail
        refine HSA.out.mono ?_
        rintro r w4 ⟨rfl, hg4⟩
        have HG4 := Lib.hid (grown_trans HG3.out hg4)
        clear hg4
        go_wp2_with fail
        go_meet
        exact HG4.out
      · have h0 : (eb == 0) = false := by simpa using heb
        clear heb
        go_wp2_with fail
        go_meet
        exact HGA.out
    case rest =>
      have HC := Lib.hid hcut
      clear hcut hgA
      go_wp2_with fail
      refine (HD.out _ HC.out).mono ?_
      rintro r w3 ⟨a3, n3, c3, rfl, hn3, hl3, hg3⟩
      have HG3 := Lib.hid (grown_trans HC.out hg3); have HL3 := Lib.hid hl3; have HN3 := Lib.hid hn3
      clear hn3 hl3 hg3
      by_cases hed : ed = 0
      · subst hed
        obtain ⟨l1, l2, l3, l4⟩ := enc_decE HLD.out
        have HEC := Lib.hid (script_encode a3 n3 c3 M w3 HL3.out HN3.out l3 (by rw [← HN3.out]; simp only; unfold maxLen; omega))
        rw [l1] at HEC
        have HAL := Lib.hid l2
        have hnn : n3 ≤ 1024 := by rw [← HN3.out]; exact l4
        clear l1 l2 l3 l4
        go_wp2_with fail
        refine HEC.out.mono ?_
        rintro r w4 ⟨a4, n4, c4, rfl, hn4, hr4, hg4⟩
        have hs4 := string_bytes a4 n4 c4 _ w4 hr4 hn4
        have hs5 := string_bytes a' k cap _ w4 (HBR.out.old (grown_below (grown_trans HG3.out hg4))) HBL.out
        have HG4 := Lib.hid (grown_trans HG3.out hg4); have HL4 := Lib.hid (HL3.out.grown hg4)
        clear hn4 hr4 hg4
        go_wp2_with fail
        go_loopw [13] (fun i wr => GoodRel w4 n3 i wr) (fun i _ => n3 - (intOf i).toNat)
        case atStart => exact ⟨0, Nat.zero_le _, rfl, World.grownBy.refl _ _⟩
        case round =>
          obtain ⟨j, hj, rfl, hg⟩ := hrel
          have HG := Lib.hid hg
          clear hg
          by_cases hjt : j < n3
          · obtain ⟨e, he⟩ : ∃ e, M[j]'(by have := HN3.out; omega) = e := ⟨_, rfl⟩
            have hat := HL4.out j (by have := HN3.out; omega)
            rw [he] at hat
            have hgd : e.good = true := List.all_eq_true.1 HAL.out e (by rw [← he]; exact List.getElem_mem _)
            obtain ⟨b, o, q, m, d, rfl, h0, h1, h2, h3, h4, hb⟩ := hat
            have d0 := grown_cell HG.out h0
            have d1 := grown_cell HG.out h1
            have d2 := grown_cell HG.out h2
            have d3 := grown_cell HG.out h3
            have d4 := grown_cell HG.out h4
            have hu := e.k.toNat_lt
            have HSG := Lib.hid (script_good e.k.toNat e.s e.p e.t q m d (by omega) wr)
            rw [show goodE e.k.toNat e.s e.p e.t m = true from by rw [← hgd, ← hb.len]; rfl] at HSG
            clear h0 h1 h2 h3 h4 hb he hgd hu
            go_wp2_with fail
            refine HSG.out.mono ?_
            rintro r w5 ⟨rfl, hg5⟩
            have HG5 := Lib.hid (grown_trans HG.out hg5)
            clear hg5
            go_wp2_with fail
            go_roundw
            case rel => exact ⟨j + 1, by omega, by go_num, HG5.out⟩
            case measure => simp [intOf]; omega
          · obtain rfl : j = n3 := by omega
            go_wp2_with fail
            refine (script_works _).mono ?_
            rintro r w7 ⟨rfl, hg7⟩
            have HG7 := Lib.hid (grown_trans (grown_trans HG4.out HG.out) hg7)
            clear hg7
            go_wp2_with fail
            go_ret
            exact ⟨rfl, grown_below HG7.out⟩
      · have h0 : (ed == 0) = false := by simpa using hed
        clear hed
        go_wp2_with fail
        refine (script_works _).mono ?_
        rintro r w7 ⟨rfl, hg7⟩
        have HG7 := Lib.hid (grown_trans HG3.out hg7)
        clear hg7
        go_wp2_with fail
        go_ret
        exact ⟨rfl, grown_below HG7.out⟩

def LongRel (w : World) (e : EvP) (q : Option Addr) (m d N : Nat) (v i : Value) (wr : World) : Prop :=
  ∃ k : Nat, k ≤ N ∧ i = .int .i64 k ∧ OwnR wr w.heap.size 52 5 v (List.replicate k (evCells e q m d)) ∧ w.grownBy wr none
theorem rep_list {w : World} {a : Option Addr} {e : EvP} {q : Option Addr} {m d k : Nat} (h : Elems w 5 a (List.replicate k (evCells e q m d))) (hb : EvB w e q m d) : EvList w a (List.replicate k e) := by
  intro i hi
  rw [List.length_replicate] at hi
  obtain ⟨b, o, ha, hc⟩ := h i (by rw [List.length_replicate]; exact hi)
  rw [List.getElem_replicate] at hc
  rw [List.getElem_replicate]
  exact ⟨b, o, q, m, d, ha, hc 0 (by omega), hc 1 (by omega), hc 2 (by omega), hc 3 (by omega), hc 4 (by omega), hb⟩
theorem rep_good {e : EvP} (h : e.good = true) (k : Nat) : (List.replicate k e).all EvP.good = true := by
  rw [List.all_eq_true]
  intro x hx
  rw [(List.mem_replicate.1 hx).2]
  exact h
theorem rep_enc {e : EvP} (h : e.good = true) (ok : e.ok) (k : Nat) : encE (List.replicate k e) = (if 1024 < k then ([], 7) else (numB k 2 ++ allB (List.replicate k e), 0)) ∧ (k ≤ 1024 → decE (numB k 2 ++ allB (List.replicate k e)) = (List.replicate k e, 0)) := by
  constructor
  · unfold encE
    rw [if_pos (rep_good h k), List.length_replicate]
  · intro hk
    have := dec_encE (rep_good h k) (fun x hx => by rw [(List.mem_replicate.1 hx).2]; exact ok) (by rw [List.length_replicate]; exact hk)
    rw [List.length_replicate] at this
    exact this

set_option maxHeartbeats 3200000 in
theorem scriptLong_walk (e : EvP) (q : Option Addr) (m d : Nat) (x : Int) (w : World) (hb : EvB w e q m d) (ok : e.ok) (hx : 0 ≤ x ∧ x ≤ 255) :
    Calls Try.prog 6 #[.agg #[.int .u8 (e.k.toNat : Int), .int .u32 (e.s : Int), .int .i64 e.p, .int .i64 e.t, .slice q m d], .int .u8 x] w fun r w' => r = .returned (.bool true) ∧ Below w.heap.size w w' := by
  obtain ⟨xn, rfl⟩ : ∃ xn : Nat, x = (xn : Int) := ⟨x.toNat, by omega⟩
  obtain ⟨_, hx2⟩ := hx
  have hu := e.k.toNat_lt
  have hEB := Box.new w 52 [.int .u8 (e.k.toNat : Int), .int .u32 (e.s : Int), .int .i64 e.p, .int .i64 e.t, .slice q m d] w.heap.size rfl
  have hgw := growA2 w (.cells #[.int .u8 (e.k.toNat : Int), .int .u32 (e.s : Int), .int .i64 e.p, .int .i64 e.t, .slice q m d] 52) (.cells #[.int .u8 (e.k.toNat : Int), .int .u32 (e.s : Int), .int .i64 e.p, .int .i64 e.t, .slice q m d] 52)
  have hE1 : Elems ((w.alloc (.cells #[.int .u8 (e.k.toNat : Int), .int .u32 (e.s : Int), .int .i64 e.p, .int .i64 e.t, .slice q m d] 52)).alloc (.cells #[.int .u8 (e.k.toNat : Int), .int .u32 (e.s : Int), .int .i64 e.p, .int .i64 e.t, .slice q m d] 52)) 5 (some ⟨w.heap.size + 1, 0, none⟩) (List.replicate 1 (evCells e q m d)) := by
    intro i hi
    obtain rfl : i = 0 := by rw [List.length_replicate] at hi; omega
    refine ⟨_, 0, rfl, fun j hj => ?_⟩
    have := (Box.new (w.alloc (.cells #[.int .u8 (e.k.toNat : Int), .int .u32 (e.s : Int), .int .i64 e.p, .int .i64 e.t, .slice q m d] 52)) 52 [.int .u8 (e.k.toNat : Int), .int .u32 (e.s : Int), .int .i64 e.p, .int .i64 e.t, .slice q m d] (w.heap.size + 1) (by simp)).look j
    simp [evCells] at this ⊢
  have HF := Lib.hid (few_events (some ⟨w.heap.size + 1, 0, none⟩) 1 1 (List.replicate 1 e) _ (rep_list hE1 (hb.grown hgw)) rfl (by simp [maxLen]))
  have HRG := Lib.hid (fun u (hg : w.grownBy u none) => ref_goodE e.k.toNat e.s e.p e.t q m d e.b (by omega) u (hb.grown hg).rb hb.len)
  obtain ⟨gd, hgd⟩ : ∃ b, goodE e.k.toNat e.s e.p e.t m = b := ⟨_, rfl⟩
  rw [hgd] at HRG
  have HGD := Lib.hid (show e.good = gd from by rw [← hgd, ← hb.len]; rfl)
  have HGW := Lib.hid hgw; have HEB := Lib.hid (hEB.alloc (.cells #[.int .u8 (e.k.toNat : Int), .int .u32 (e.s : Int), .int .i64 e.p, .int .i64 e.t, .slice q m d] 52))
  have HB := Lib.hid hb; have HOK := Lib.hid ok
  clear hu hEB hgw hE1 hgd hb ok
  go_enter Try.func6, Try.ntmps6
  go_wp2_with fail
  refine HF.out.mono ?_
  rintro r w1 ⟨fw, rfl, hg1, _⟩
  have HG1 := Lib.hid (grown_trans HGW.out hg1)
  have HE1 := Lib.hid (HEB.out.grown hg1)
  have L1 := HE1.out.look
  clear hg1
  cases fw
  · go_wp2_with fail
    refine (script_works _).mono ?_
    rintro r w2 ⟨rfl, hg2⟩
    have HG2 := Lib.hid (grown_trans HG1.out hg2)
    clear hg2
    go_wp2_with fail
    go_ret
    exact ⟨rfl, grown_below HG2.out⟩
  · go_wp2_with fail
    refine (HRG.out _ HG1.out).mono ?_
    rintro r w2 ⟨rfl, hg2⟩
    have HG2 := Lib.hid (grown_trans HG1.out hg2)
    have HE2 := Lib.hid (HE1.out.grown hg2)
    have L2 := look_later HE2.out
    have hW2 := World.grownBy.refl w2 none
    clear hg2 L1
    have hcase : gd = false ∨ (gd = true ∧ (20 : Int) < (m : Int)) ∨ (gd = true ∧ (m : Int) ≤ 20) := by
      cases gd
      · exact .inl rfl
      · rcases Nat.lt_or_ge 20 m with h | h
        · exact .inr (.inl ⟨rfl, by omega⟩)
        · exact .inr (.inr ⟨rfl, by omega⟩)
    rcases hcase with rfl | ⟨rfl, h2⟩ | ⟨rfl, h2⟩
    · go_wp2_with fail
      refine (script_works _).mono ?_
      rintro r w3 ⟨rfl, hg3⟩
      have HG3 := Lib.hid (grown_trans HG2.out hg3)
      clear hg3
      go_wp2_with fail
      go_ret
      exact ⟨rfl, grown_below HG3.out⟩
    · go_wp2_with fail
      refine (script_works _).mono ?_
      rintro r w3 ⟨rfl, hg3⟩
      have HG3 := Lib.hid (grown_trans HG2.out hg3)
      clear hg3
      go_wp2_with fail
      go_ret
      exact ⟨rfl, grown_below HG3.out⟩
    · have hwx : IntKind.i64.wrap (xn : Int) = (xn : Int) := IntWalk.i64_in _ (by omega)
      go_wp2_with fail
      go_loopw [5, 6] (fun v i wr => LongRel w2 e q m d (924 + xn) v i wr) (fun _ i _ => 924 + xn - (intOf i).toNat)
      case atStart => exact ⟨0, Nat.zero_le _, rfl, OwnR.nil _ _ _ _, World.grownBy.refl _ _⟩
      case round =>
        obtain ⟨k, hk, rfl, hO, hg⟩ := hrel
        have HO := Lib.hid hO
        by_cases hlt : k < 924 + xn
        · have HOA := Lib.hid (hO.grown (World.grownBy_alloc _ (.cells (evCells e q m d).toArray 52) none))
          have HGA := Lib.hid (growA _ (.cells (evCells e q m d).toArray 52) hg)
          have HLT := Lib.hid hO.lt
          simp only [evCells] at HOA HGA
          clear hO
          have hlt' : (k : Int) < 924 + (xn : Int) := by omega
          go_wp2_with (at_builtin; refine wpList_append_elem (o := ⟨some 37, _, _, _, _, _⟩) rfl _ _ 39 52 rfl Try.underlying39 _ 5 48 info_ev rfl (by decide) HOA.out rfl (heap_alloc_new _ _) rfl rfl (ev_one e q m d) (by rw [List.length_replicate]; omega) (by rw [List.length_replicate]; omega) HGA.out.size ?_)
          intro g' cap w9 ho hg9 hk9
          have HO9 := Lib.hid (show OwnR w9 w2.heap.size 52 5 (.slice (some ⟨g', 0, none⟩) (k + 1) cap) (List.replicate (k + 1) (evCells e q m d)) by
            rw [List.replicate_succ']
            exact ho)
          have HG9 := Lib.hid (grown_row HGA.out (fun g h => (HLT.out g h).1) hg9)
          clear ho hg9 hk9 hg
          go_wp2_with fail
          go_roundw
          case rel => exact ⟨k + 1, by omega, by go_num, HO9.out, HG9.out⟩
          case measure => simp [intOf]; omega
        · obtain rfl : k = 924 + xn := by omega
          obtain ⟨va, vc, hv⟩ := hO.len
          rw [List.length_replicate] at hv
          subst hv
          have HEL := Lib.hid (rep_list hO.elems (HB.out.grown (grown_trans HG2.out hg)))
          obtain ⟨K, hK⟩ : ∃ K, 924 + xn = K := ⟨_, rfl⟩
          have hKi : (924 : Int) + (xn : Int) = (K : Int) := by omega
          rw [hK] at HEL
          obtain ⟨l1, l2⟩ := rep_enc HGD.out HOK.out K
          have HEN := Lib.hid (script_encode va K vc (List.replicate K e) wr HEL.out (by simp) (fun x hx => by rw [(List.mem_replicate.1 hx).2]; exact HOK.out) (by unfold maxLen; omega))
          rw [l1] at HEN
          have HL2 := Lib.hid l2
          have HGR := Lib.hid (grown_trans HG2.out hg)
          have hK1 : 924 ≤ K ∧ K ≤ 1179 := by omega
          clear hO l1 l2 hg L2 hW2 hlt
          by_cases hl : 1024 < K
          · rw [if_pos hl] at HEN
            have hl' : (1024 : Int) < (K : Int) := by omega
            rw [hK]
            go_wp2_with fail
            refine HEN.out.mono ?_
            rintro r w3 ⟨a3, n3, c3, rfl, hn3, _, hg3⟩
            obtain rfl : n3 = 0 := hn3.symm
            have HG3 := Lib.hid (grown_trans HGR.out hg3)
            clear hn3 hg3
            go_wp2_with fail
            refine (script_works _).mono ?_
            rintro r w4 ⟨rfl, hg4⟩
            have HG4 := Lib.hid (grown_trans HG3.out hg4)
            clear hg4
            go_wp2_with fail
            go_ret
            exact ⟨rfl, grown_below HG4.out⟩
          · rw [if_neg hl] at HEN
            have hl' : (K : Int) ≤ 1024 := by omega
            have hdl := HL2.out (by omega)
            have HDL := Lib.hid hdl
            have HLL := Lib.hid (allB_len (List.replicate K e) (rep_good HGD.out K))
            rw [hK]
            clear hl hdl
            go_wp2_with fail
            refine HEN.out.mono ?_
            rintro r w3 ⟨a3, n3, c3, rfl, hn3, hr3, hg3⟩
            have HG3 := Lib.hid (grown_trans HGR.out hg3)
            have hd := script_decode a3 n3 c3 _ w3 hn3 hr3 (by
              have := HLL.out
              rw [List.length_replicate] at this
              rw [← hn3]
              simp only [List.length_append, numB_length]
              have : K * 515 ≤ 1024 * 515 := Nat.mul_le_mul_right _ (by omega)
              omega)
            simp only at hd
            rw [HDL.out] at hd
            have HD := Lib.hid hd
            clear hn3 hr3 hg3 hd
            go_wp2_with fail
            refine HD.out.mono ?_
            rintro r w4 ⟨a4, n4, c4, rfl, hn4, _, hg4⟩
            obtain rfl : n4 = K := by rw [← hn4]; simp
            have HG4 := Lib.hid (grown_trans HG3.out hg4)
            clear hn4 hg4
            go_wp2_with fail
            refine (script_works _).mono ?_
            rintro r w5 ⟨rfl, hg5⟩
            have HG5 := Lib.hid (grown_trans HG4.out hg5)
            clear hg5
            go_wp2_with fail
            go_ret
            exact ⟨rfl, grown_below HG5.out⟩

end Go.Proofs.Ytomnhgcjdnhijaa
