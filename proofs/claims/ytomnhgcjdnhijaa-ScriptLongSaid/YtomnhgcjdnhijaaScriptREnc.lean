/-
  Events are encoded by the document.
-/
import Derived.Test.YtomnhgcjdnhijaaScriptEnc
namespace Go.Proofs.Ytomnhgcjdnhijaa
open Go.RowKit
set_option maxRecDepth 100000

theorem Buf.one {w0 : World} (g : Nat) (hg : g = w0.heap.size) (c : UInt8) : Buf w0 (w0.alloc (.cells #[.int .u8 (c.toNat : Int)] 5)) (.slice (some ⟨g, 0, none⟩) 1 1) [c] := by
  subst hg
  exact ⟨OwnB.lit w0 [c] _ 1 rfl rfl (by simp [maxLen]), World.grownBy_alloc _ _ none⟩
set_option maxHeartbeats 3200000 in
theorem ref_one (e : EvP) (q : Option Addr) (m d : Nat) (w : World) (hb : EvB w e q m d) (hok : e.ok) (hgd : e.good = true) :
    Calls Try.prog 54 #[.agg #[.int .u8 (e.k.toNat : Int), .int .u32 (e.s : Int), .int .i64 e.p, .int .i64 e.t, .slice q m d]] w (OwnPost w (oneB e)) := by
  have hlen := good_len hgd
  have hpt := good_nums hgd
  have hs := hok.s
  obtain ⟨ek, es, ep, et, eb⟩ := e
  simp only at hlen hpt hs
  have HBL := Lib.hid (show eb.length = m from hb.len)
  have HRB := Lib.hid (show RB w q eb from hb.rb)
  have q1 : ((ek.toNat : Int) == 1) = decide (ek = 1) := k_eq ek 1 (by decide)
  have q2 : ((ek.toNat : Int) == 2) = decide (ek = 2) := k_eq ek 2 (by decide)
  have q3 : ((ek.toNat : Int) == 3) = decide (ek = 3) := k_eq ek 3 (by decide)
  have q7 : ((ek.toNat : Int) == 7) = decide (ek = 7) := k_eq ek 7 (by decide)
  have LK := fun u (h : (w.alloc (.cells #[.int .u8 (ek.toNat : Int), .int .u32 (es : Int), .int .i64 ep, .int .i64 et, .slice q m d] 52)).grownBy u none) => look_new w 52 [.int .u8 (ek.toNat : Int), .int .u32 (es : Int), .int .i64 ep, .int .i64 et, .slice q m d] u h
  have HB0 := Lib.hid (Buf.one (w0 := w.alloc (.cells #[.int .u8 (ek.toNat : Int), .int .u32 (es : Int), .int .i64 ep, .int .i64 et, .slice q m d] 52)) (w.heap.size + 1) (by simp) ek)
  have hga := Lib.hid (World.grownBy_alloc w (.cells #[.int .u8 (ek.toNat : Int), .int .u32 (es : Int), .int .i64 ep, .int .i64 et, .slice q m d] 52) none)
  have HOB := Lib.hid (fun l e w' (h : OwnPost (w.alloc (.cells #[.int .u8 (ek.toNat : Int), .int .u32 (es : Int), .int .i64 ep, .int .i64 et, .slice q m d] 52)) l e w') => OwnPost.base hga.out h)
  clear hok hgd hb
  by_cases e1 : ek = 1
  · rw [decide_eq_true e1] at q1
    have HO := Lib.hid (show oneB ⟨ek, es, ep, et, eb⟩ = [ek] ++ (numB eb.length 2 ++ eb) by unfold oneB; rw [if_pos e1]; rfl)
    clear e1 q2 q3 q7
    go_enter Try.func54, Try.ntmps54
    go_wp2_with fail
    refine (ref_bytes q m d eb _ HBL.out (HRB.out.old (grown_below (growA2 w _ _))) (by rw [← HBL.out]; omega)).mono ?_
    rintro r w1 ⟨a1, n1, c1, rfl, hn1, ho, hg⟩
    have HB1 := Lib.hid (HB0.out.grown hg)
    have HR1 := Lib.hid (RB.of_own ho); have HN1 := Lib.hid hn1
    clear ho hg hn1
    go_wp2_with (at_builtin; refine wpList_append_buf (o := ⟨some 15, _, _, _, _, _⟩) rfl _ _ rfl HB1.out rfl HR1.out rfl HN1.out (by rw [← HN1.out, List.length_append, numB_length]; simp; omega) ?_)
    intro a2 n2 c2 w2 hb2
    have HB2 := Lib.hid hb2
    clear hb2
    go_wp2_with fail
    go_ret
    rw [HO.out]
    exact HOB.out _ _ _ HB2.out.post
  · rw [decide_eq_false e1] at q1
    by_cases e2 : ek = 2 ∨ ek = 3
    · have HO := Lib.hid (show oneB ⟨ek, es, ep, et, eb⟩ = [ek] ++ numB es 4 by unfold oneB; rw [if_neg e1, if_pos e2]; rfl)
      have hws : IntKind.u64.wrap (es : Int) = (es : Int) := wrap_u64 _ (by omega) (by omega)
      have q23 : decide (ek = 2) = true ∨ (decide (ek = 2) = false ∧ decide (ek = 3) = true) := by
        rcases e2 with h | h
        · exact .inl (decide_eq_true h)
        · exact .inr ⟨by rw [h]; decide, decide_eq_true h⟩
      clear e1 e2 q7
      rcases q23 with h | ⟨h, h3⟩
      rotate_left 1
      · rw [h] at q2
        rw [h3] at q3
        clear h h3
        go_enter Try.func54, Try.ntmps54
        go_wp2_with fail
        refine (ref_num_4 es (by omega) _).mono ?_
        rintro r w1 ⟨a1, n1, c1, rfl, hn1, ho, hg⟩
        have HB1 := Lib.hid (HB0.out.grown hg)
        have HR1 := Lib.hid (RB.of_own ho); have HN1 := Lib.hid hn1
        clear ho hg hn1
        go_wp2_with (at_builtin; refine wpList_append_buf (o := ⟨some 24, _, _, _, _, _⟩) rfl _ _ rfl HB1.out rfl HR1.out rfl HN1.out (by rw [← HN1.out, numB_length]; simp) ?_)
        intro a2 n2 c2 w2 hb2
        have HB2 := Lib.hid hb2
        clear hb2
        go_wp2_with fail
        go_ret
        rw [HO.out]
        exact HOB.out _ _ _ HB2.out.post
      · rw [h] at q2
        clear h q3
        go_enter Try.func54, Try.ntmps54
        go_wp2_with fail
        refine (ref_num_4 es (by omega) _).mono ?_
        rintro r w1 ⟨a1, n1, c1, rfl, hn1, ho, hg⟩
        have HB1 := Lib.hid (HB0.out.grown hg)
        have HR1 := Lib.hid (RB.of_own ho); have HN1 := Lib.hid hn1
        clear ho hg hn1
        go_wp2_with (at_builtin; refine wpList_append_buf (o := ⟨some 24, _, _, _, _, _⟩) rfl _ _ rfl HB1.out rfl HR1.out rfl HN1.out (by rw [← HN1.out, numB_length]; simp) ?_)
        intro a2 n2 c2 w2 hb2
        have HB2 := Lib.hid hb2
        clear hb2
        go_wp2_with fail
        go_ret
        rw [HO.out]
        exact HOB.out _ _ _ HB2.out.post
    · rw [decide_eq_false (fun h => e2 (.inl h))] at q2
      rw [decide_eq_false (fun h => e2 (.inr h))] at q3
      by_cases e7 : ek = 7
      · rw [decide_eq_true e7] at q7
        obtain ⟨p0, p1, t0, t1⟩ := hpt e7
        obtain ⟨pn, rfl⟩ : ∃ pn : Nat, ep = (pn : Int) := ⟨ep.toNat, by omega⟩
        obtain ⟨tn, rfl⟩ : ∃ tn : Nat, et = (tn : Int) := ⟨et.toNat, by omega⟩
        have HO := Lib.hid (show oneB ⟨ek, es, pn, tn, eb⟩ = [ek] ++ numB pn 2 ++ numB tn 2 by unfold oneB; rw [if_neg e1, if_neg e2, if_pos e7]; rfl)
        have hwp : IntKind.u64.wrap (pn : Int) = (pn : Int) := wrap_u64 _ p0 (by omega)
        have hwt : IntKind.u64.wrap (tn : Int) = (tn : Int) := wrap_u64 _ t0 (by omega)
        clear e1 e2 e7 hpt
        go_enter Try.func54, Try.ntmps54
        go_wp2_with fail
        refine (ref_num_2 pn (by omega) _).mono ?_
        rintro r w1 ⟨a1, n1, c1, rfl, hn1, ho, hg⟩
        have HB1 := Lib.hid (HB0.out.grown hg)
        have HR1 := Lib.hid (RB.of_own ho); have HN1 := Lib.hid hn1
        clear ho hg hn1
        go_wp2_with (at_builtin; refine wpList_append_buf (o := ⟨some 32, _, _, _, _, _⟩) rfl _ _ rfl HB1.out rfl HR1.out rfl HN1.out (by rw [← HN1.out, numB_length]; simp) ?_)
        intro a2 n2 c2 w2 hb2
        have HB2 := Lib.hid hb2
        clear hb2
        have hg2 := HB2.out.2
        go_wp2_with fail
        refine (ref_num_2 tn (by omega) _).mono ?_
        rintro r w3 ⟨a3, n3, c3, rfl, hn3, ho, hg⟩
        have HB3 := Lib.hid (HB2.out.grown hg)
        have HR3 := Lib.hid (RB.of_own ho); have HN3 := Lib.hid hn3
        clear ho hg hn3 hg2
        go_wp2_with (at_builtin; refine wpList_append_buf (o := ⟨some 38, _, _, _, _, _⟩) rfl _ _ rfl HB3.out rfl HR3.out rfl HN3.out (by have h := HN3.out; rw [numB_length] at h; subst h; simp [numB_length]) ?_)
        intro a4 n4 c4 w4 hb4
        have HB4 := Lib.hid hb4
        clear hb4
        go_wp2_with fail
        go_ret
        rw [HO.out]
        exact HOB.out _ _ _ HB4.out.post
      · rw [decide_eq_false e7] at q7
        have HO := Lib.hid (show oneB ⟨ek, es, ep, et, eb⟩ = [ek] by unfold oneB; rw [if_neg e1, if_neg e2, if_neg e7])
        clear e1 e2 e7
        go_enter Try.func54, Try.ntmps54
        go_wp2_with fail
        go_ret
        rw [HO.out]
        exact HOB.out _ _ _ HB0.out.post

def REncRel2 (w0 : World) (L : List EvP) (n : Nat) (v i : Value) (wr : World) : Prop :=
  ∃ k : Nat, k ≤ n ∧ i = .int .i64 k ∧ Buf w0 wr v (numB n 2 ++ allB (L.take k))

set_option maxHeartbeats 3200000 in
theorem ref_encodeE (a : Option Addr) (n c : Nat) (L : List EvP) (w : World) (hE : EvList w a L) (hn : L.length = n) (ok : ∀ e ∈ L, e.ok) (hm : n ≤ maxLen) :
    Calls Try.prog 20 #[.slice a n c] w (EncEPost w (encE L)) := by
  have HE := Lib.hid hE; have HN := Lib.hid hn; have HOK := Lib.hid ok
  have hmx : n ≤ 9223372036854775807 := hm
  clear hE hn ok hm
  go_enter Try.func20, Try.ntmps20
  go_wp2_with fail
  go_loopw [4] (fun i wr => EncRel1 w L n i wr) (fun i _ => n - (intOf i).toNat)
  case atStart => exact ⟨0, Nat.zero_le _, rfl, by simp, World.grownBy.refl _ _⟩
  case round =>
    obtain ⟨k, hk, rfl, hall, hg⟩ := hrel
    have HALL := Lib.hid hall; have HG := Lib.hid hg
    clear hall hg
    by_cases hlt : k < n
    · obtain ⟨e, he⟩ : ∃ e, L[k]'(by rw [HN.out]; exact hlt) = e := ⟨_, rfl⟩
      have hat := HE.out k (by rw [HN.out]; exact hlt)
      rw [he] at hat
      obtain ⟨b, o, q, m, d, rfl, h0, h1, h2, h3, h4, hb⟩ := hat
      have d0 := grown_cell HG.out h0
      have d1 := grown_cell HG.out h1
      have d2 := grown_cell HG.out h2
      have d3 := grown_cell HG.out h3
      have d4 := grown_cell HG.out h4
      have HL := Lib.hid he
      have hu := e.k.toNat_lt
      have HGD := Lib.hid (ref_goodE e.k.toNat e.s e.p e.t q m d e.b (by omega) wr (hb.rb.old (grown_below HG.out)) hb.len)
      rw [show goodE e.k.toNat e.s e.p e.t m = e.good from by rw [← hb.len]; rfl] at HGD
      obtain ⟨gd, hgd⟩ : ∃ gd, e.good = gd := ⟨_, rfl⟩
      rw [hgd] at HGD
      have HGQ := Lib.hid hgd
      clear h0 h1 h2 h3 h4 hb he hgd hu
      cases gd
      · go_wp2_with fail
        refine HGD.out.mono ?_
        rintro r w1 ⟨rfl, hg⟩
        have HG1 := Lib.hid (grown_trans HG.out hg)
        clear hg
        go_wp2_with fail
        go_ret2
        have : encE L = ([], 1) := by
          unfold encE
          rw [if_neg]
          intro h
          have := List.all_eq_true.1 h e (by rw [← HL.out]; exact List.getElem_mem _)
          rw [HGQ.out] at this
          cases this
        rw [this]
        exact ⟨none, 0, 0, rfl, rfl, RB.nil _ _, HG1.out⟩
      · go_wp2_with fail
        refine HGD.out.mono ?_
        rintro r w1 ⟨rfl, hg⟩
        have HG1 := Lib.hid (grown_trans HG.out hg)
        clear hg
        go_wp2_with fail
        go_roundw
        case rel =>
          refine ⟨k + 1, by omega, by go_num, ?_, HG1.out⟩
          rw [List.take_succ_eq_append_getElem (by rw [HN.out]; exact hlt), HL.out]
          simp [HALL.out, HGQ.out]
        case measure => simp [intOf]; omega
    · obtain rfl : k = n := by omega
      have hall := HALL.out
      rw [List.take_of_length_le (by rw [HN.out]; exact Nat.le_refl _)] at hall
      have HALL2 := Lib.hid hall
      clear hall
      by_cases hlong : 1024 < k
      · have hl' : (1024 : Int) < (k : Int) := by omega
        go_wp2_with fail
        go_ret2
        rw [show encE L = ([], 7) from by unfold encE; rw [if_pos HALL2.out, if_pos (by rw [HN.out]; exact hlong)]]
        exact ⟨none, 0, 0, rfl, rfl, RB.nil _ _, HG.out⟩
      · have hl' : (k : Int) ≤ 1024 := by omega
        obtain ⟨wq, hwq⟩ : ∃ wq, wq = wr := ⟨_, rfl⟩
        subst hwq
        have hwk : IntKind.u64.wrap (k : Int) = (k : Int) := wrap_u64 _ (by omega) (by omega)
        have hkk : k ≤ 1024 := by omega
        go_wp2_with fail
        refine (ref_num_2 k (by omega) _).mono ?_
        rintro r w2 ⟨a2, n2, c2, rfl, hn2, ho, hg2⟩
        have HB2 := Lib.hid (Buf.mk' (World.grownBy.refl wq none) ho hg2)
        clear ho hg2 hn2 hwk
        go_wp2_with fail
        go_loopw [5, 6] (fun v i wr => REncRel2 wq L k v i wr) (fun _ i _ => k - (intOf i).toNat)
        case atStart => exact ⟨0, Nat.zero_le _, rfl, by simpa [allB] using HB2.out⟩
        case round =>
          obtain ⟨j, hj, rfl, hB⟩ := hrel
          have HB := Lib.hid hB
          obtain ⟨va, vn, vc, rfl, hvn⟩ := hB.1.len
          clear hB hvn
          by_cases hjt : j < k
          · obtain ⟨e, he⟩ : ∃ e, L[j]'(by rw [HN.out]; exact hjt) = e := ⟨_, rfl⟩
            have hat := HE.out j (by rw [HN.out]; exact hjt)
            rw [he] at hat
            have hgd : e.good = true := List.all_eq_true.1 HALL2.out e (by rw [← he]; exact List.getElem_mem _)
            have hok := HOK.out e (by rw [← he]; exact List.getElem_mem _)
            obtain ⟨P, hP⟩ : ∃ P, numB k 2 ++ allB (L.take j) = P := ⟨_, rfl⟩
            have hPl : P.length ≤ 2 + j * 515 := by
              rw [← hP, List.length_append, numB_length]
              have h1 := allB_len (L.take j) (by
                rw [List.all_eq_true]
                intro x hx
                exact List.all_eq_true.1 HALL2.out x (List.mem_of_mem_take hx))
              have h2 : (L.take j).length ≤ j := List.length_take_le _ _
              have h3 : (L.take j).length * 515 ≤ j * 515 := Nat.mul_le_mul_right _ h2
              omega
            have hol := oneB_len hgd
            have hnx : numB k 2 ++ allB (L.take (j + 1)) = P ++ oneB e := by rw [allB_snoc L j (by rw [HN.out]; exact hjt), he, ← List.append_assoc, hP]
            rw [hP] at HB
            have HNX := Lib.hid hnx
            have HPL := Lib.hid (show P.length + (oneB e).length ≤ 140737488355328 by omega)
            clear hP hnx hPl hol
            have hgw := grown_trans HG.out HB.out.2
            obtain ⟨b, o, q, m, d, rfl, h0, h1, h2, h3, h4, hb⟩ := hat
            have d0 := grown_cell hgw h0
            have d1 := grown_cell hgw h1
            have d2 := grown_cell hgw h2
            have d3 := grown_cell hgw h3
            have d4 := grown_cell hgw h4
            have HC := Lib.hid (ref_one e q m d wr (hb.grown hgw) hok hgd)
            clear h0 h1 h2 h3 h4 hb he hok hgd hgw
            go_wp2_with fail
            refine HC.out.mono ?_
            rintro r w3 ⟨a3, n3, c3, rfl, hn3, ho, hg3⟩
            have HB3 := Lib.hid (HB.out.grown hg3)
            have HR3 := Lib.hid (RB.of_own ho); have HN3 := Lib.hid hn3
            clear ho hg3 hn3
            go_wp2_with (at_builtin; refine wpList_append_buf (o := ⟨some 38, _, _, _, _, _⟩) rfl _ _ rfl HB3.out rfl HR3.out rfl HN3.out (by rw [← HN3.out]; exact HPL.out) ?_)
            intro a4 n4 c4 w4 hb4
            have HB4 := Lib.hid hb4
            clear hb4
            go_wp2_with fail
            go_roundw
            case rel => exact ⟨j + 1, by omega, by go_num, by rw [HNX.out]; exact HB4.out⟩
            case measure => simp [intOf]; omega
          · obtain rfl : j = k := by omega
            go_wp2_with fail
            go_ret2
            rw [show encE L = (numB j 2 ++ allB (L.take j), 0) from by unfold encE; rw [if_pos HALL2.out, if_neg (by rw [HN.out]; exact hlong), HN.out, List.take_of_length_le (by rw [HN.out]; exact Nat.le_refl _)]]
            exact ⟨va, vn, vc, rfl, HB.out.len, HB.out.rb, grown_trans HG.out HB.out.2⟩

end Go.Proofs.Ytomnhgcjdnhijaa
