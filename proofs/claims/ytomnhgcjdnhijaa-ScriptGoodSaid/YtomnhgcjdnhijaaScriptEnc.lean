/-
  Events are encoded.
-/
import Derived.Test.YtomnhgcjdnhijaaScriptMem
import Derived.Deep.DeepCutAuto
namespace Go.Proofs.Ytomnhgcjdnhijaa
open Go.RowKit
set_option maxRecDepth 100000

/-- an event's bytes -/
def oneB (e : EvP) : List UInt8 :=
  e.k :: (if e.k = 1 then numB e.b.length 2 ++ e.b else if e.k = 2 ∨ e.k = 3 then numB e.s 4 else if e.k = 7 then numB e.p.toNat 2 ++ numB e.t.toNat 2 else [])
def allB (L : List EvP) : List UInt8 := (L.map oneB).flatten
/-- what 'Encode' says -/
def encE (L : List EvP) : List UInt8 × Int :=
  if L.all EvP.good then (if 1024 < L.length then ([], 7) else (numB L.length 2 ++ allB L, 0)) else ([], 1)
def EncEPost (w : World) (t : List UInt8 × Int) (r : Ending) (w' : World) : Prop :=
  ∃ a n c, r = .returned (.tuple #[.slice a n c, .int .i64 t.2]) ∧ t.1.length = n ∧ RB w' a t.1 ∧ w.grownBy w' none
theorem allB_snoc (L : List EvP) (i : Nat) (h : i < L.length) : allB (L.take (i + 1)) = allB (L.take i) ++ oneB L[i] := by
  unfold allB
  rw [List.take_succ_eq_append_getElem h, List.map_append, List.flatten_append, show (List.map oneB [L[i]]).flatten = oneB L[i] by simp]
theorem good_len {e : EvP} (h : e.good = true) : e.b.length ≤ 512 := by
  unfold EvP.good goodE at h
  simp only [Bool.and_eq_true, decide_eq_true_eq] at h
  exact h.1.1.2
theorem oneB_len {e : EvP} (h : e.good = true) : (oneB e).length ≤ 515 := by
  have hb := good_len h
  unfold oneB
  split
  · simp [numB_length]; omega
  · split
    · simp [numB_length]
    · split <;> simp [numB_length]
theorem allB_len (L : List EvP) (h : L.all EvP.good = true) : (allB L).length ≤ L.length * 515 := by
  unfold allB
  induction L with
  | nil => simp
  | cons e L ih =>
    rw [List.all_cons, Bool.and_eq_true] at h
    have h1 := oneB_len h.1
    have h2 := ih h.2
    rw [List.map_cons, List.flatten_cons, List.length_append, List.length_cons, Nat.add_mul]
    omega

def EncRel2 (w0 : World) (g M : Nat) (L : List EvP) (n : Nat) (i : Value) (wr : World) : Prop :=
  ∃ k : Nat, k ≤ n ∧ i = .int .i64 k ∧ Wr w0 wr g (0, numB n 2 ++ allB (L.take k)) M
theorem good_nums {e : EvP} (h : e.good = true) : (e.k = 7 → 0 ≤ e.p ∧ e.p ≤ 65535 ∧ 0 ≤ e.t ∧ e.t ≤ 65535) := by
  intro hk
  unfold EvP.good goodE at h
  rw [hk, Bool.and_eq_true] at h
  simpa using h.2
theorem k_eq (k : UInt8) (n : Nat) (hn : n < 256) : ((k.toNat : Int) == (n : Int)) = decide (k = UInt8.ofNat n) := by
  rw [Bool.eq_iff_iff, beq_iff_eq, decide_eq_true_eq]
  constructor
  · intro h
    have : k.toNat = n := by omega
    rw [← this]; simp
  · intro h; rw [h]; simp; omega
def EncRel1 (w : World) (L : List EvP) (n : Nat) (i : Value) (wr : World) : Prop :=
  ∃ k : Nat, k ≤ n ∧ i = .int .i64 k ∧ (L.take k).all EvP.good = true ∧ w.grownBy wr none

set_option maxHeartbeats 1600000 in
theorem script_encode (a : Option Addr) (n c : Nat) (L : List EvP) (w : World) (hE : EvList w a L) (hn : L.length = n) (ok : ∀ e ∈ L, e.ok) (hm : n ≤ maxLen) :
    Calls Try.prog 19 #[.slice a n c] w (EncEPost w (encE L)) := by
  have HE := Lib.hid hE; have HN := Lib.hid hn; have HOK := Lib.hid ok
  have hmx : n ≤ 9223372036854775807 := hm
  clear hE hn ok hm
  go_enter Try.func19, Try.ntmps19
  go_wp2_with fail
  go_loopw [11] (fun i wr => EncRel1 w L n i wr) (fun i _ => n - (intOf i).toNat)
  case atStart => exact ⟨0, Nat.zero_le _, rfl, by simp, World.grownBy.refl _ _⟩
  case round =>
    obtain ⟨k, hk, rfl, hall, hg⟩ := hrel
    have HALL := Lib.hid hall; have HG := Lib.hid hg
    clear hall hg
    by_cases hlt : k < n
    · obtain ⟨e, he⟩ : ∃ e, L[k]'(by rw [HN.out]; exact hlt) = e := ⟨_, rfl⟩
      have hat := HE.out k (by rw [HN.out]; exact hlt)
      rw [he] at hat
      obtain ⟨b, o, q, m, d, rfl, h0, h1, h2, h3, h4, hb⟩ := hat
      have d0 := grown_cell HG.out h0
      have d1 := grown_cell HG.out h1
      have d2 := grown_cell HG.out h2
      have d3 := grown_cell HG.out h3
      have d4 := grown_cell HG.out h4
      have HL := Lib.hid he; have HB := Lib.hid hb
      have hu := e.k.toNat_lt
      have HGD := Lib.hid (fun w' => script_good e.k.toNat e.s e.p e.t q m d (by omega) w')
      rw [show goodE e.k.toNat e.s e.p e.t m = e.good from by rw [← hb.len]; rfl] at HGD
      obtain ⟨gd, hgd⟩ : ∃ gd, e.good = gd := ⟨_, rfl⟩
      rw [hgd] at HGD
      have HGQ := Lib.hid hgd
      clear h0 h1 h2 h3 h4 hb he hgd hu
      cases gd
      · go_wp2_with fail
        refine (HGD.out _).mono ?_
        rintro r w1 ⟨rfl, hg⟩
        have HG1 := Lib.hid (grown_trans (growA _ _ HG.out) hg)
        clear hg
        go_wp2_with fail
        go_ret2
        have : encE L = ([], 1) := by
          unfold encE
          rw [if_neg]
          intro h
          have := List.all_eq_true.1 h e (by rw [← HL.out]; exact List.getElem_mem _)
          rw [HGQ.out] at this
          cases this
        rw [this]
        exact ⟨none, 0, 0, rfl, rfl, RB.nil _ _, HG1.out⟩
      · go_wp2_with fail
        refine (HGD.out _).mono ?_
        rintro r w1 ⟨rfl, hg⟩
        have HG1 := Lib.hid (grown_trans (growA _ _ HG.out) hg)
        clear hg
        go_wp2_with fail
        go_roundw
        case rel =>
          refine ⟨k + 1, by omega, by go_num, ?_, HG1.out⟩
          rw [List.take_succ_eq_append_getElem (by rw [HN.out]; exact hlt), HL.out]
          simp [HALL.out, HGQ.out]
        case measure => simp [intOf]; omega
    · obtain rfl : k = n := by omega
      have hall := HALL.out
      rw [List.take_of_length_le (by rw [HN.out]; exact Nat.le_refl _)] at hall
      have HALL2 := Lib.hid hall
      clear hall
      by_cases hlong : 1024 < k
      · have hl' : (1024 : Int) < (k : Int) := by omega
        go_wp2_with fail
        go_ret2
        rw [show encE L = ([], 7) from by unfold encE; rw [if_pos HALL2.out, if_pos (by rw [HN.out]; exact hlong)]]
        exact ⟨none, 0, 0, rfl, rfl, RB.nil _ _, HG.out⟩
      · have hl' : (k : Int) ≤ 1024 := by omega
        obtain ⟨wq, hwq⟩ : ∃ wq, wq = wr := ⟨_, rfl⟩
        subst hwq
        have hwk : IntKind.u64.wrap (k : Int) = (k : Int) := wrap_u64 _ (by omega) (by omega)
        have hkk : k ≤ 1024 := by omega
        go_wp2_with fail
        refine (Wr.new _ (2 + k * 520) (by omega) (by omega) _).mono ?_
        rintro r w1 ⟨rfl, hW⟩
        have HW1 := Lib.hid hW
        clear hW
        go_wp2_with fail
        refine (HW1.out.num k (by omega) 2).mono ?_
        rintro r w2 ⟨rfl, hW, _⟩
        rw [show numW (2 + k * 520) (0, []) k 2 = (0, numB k 2) from (numW_fit (n := 2) (by decide) (by decide) (by omega) (by simp)).trans (by simp)] at hW
        have HW2 := Lib.hid hW
        clear hW HW1 hwk
        go_wp2_with fail
        generalize wq.heap.size = g at *
        go_loopw [34] (fun i wr => EncRel2 wq g (2 + k * 520) L k i wr) (fun i _ => k - (intOf i).toNat)
        case atStart => exact ⟨0, Nat.zero_le _, rfl, by simpa [allB] using HW2.out⟩
        case round =>
          obtain ⟨j, hj, rfl, hW⟩ := hrel
          have HW := Lib.hid hW
          clear hW
          by_cases hjt : j < k
          · obtain ⟨e, he⟩ : ∃ e, L[j]'(by rw [HN.out]; exact hjt) = e := ⟨_, rfl⟩
            have hat := HE.out j (by rw [HN.out]; exact hjt)
            rw [he] at hat
            have hgd : e.good = true := List.all_eq_true.1 HALL2.out e (by rw [← he]; exact List.getElem_mem _)
            have hok := HOK.out e (by rw [← he]; exact List.getElem_mem _)
            have hlen := good_len hgd
            have hpt := good_nums hgd
            have hs := hok.s
            obtain ⟨P, hP⟩ : ∃ P, numB k 2 ++ allB (L.take j) = P := ⟨_, rfl⟩
            have hPl : P.length ≤ 2 + j * 515 := by
              rw [← hP, List.length_append, numB_length]
              have h1 := allB_len (L.take j) (by
                rw [List.all_eq_true]
                intro x hx
                exact List.all_eq_true.1 HALL2.out x (List.mem_of_mem_take hx))
              have h2 : (L.take j).length ≤ j := List.length_take_le _ _
              have h3 : (L.take j).length * 515 ≤ j * 515 := Nat.mul_le_mul_right _ h2
              omega
            have hfit : P.length + 520 ≤ 2 + k * 520 := by omega
            have hnx : numB k 2 ++ allB (L.take (j + 1)) = P ++ oneB e := by rw [allB_snoc L j (by rw [HN.out]; exact hjt), he, ← List.append_assoc, hP]
            rw [hP] at HW
            have HNX := Lib.hid hnx
            clear hP hnx hPl
            have hgw := grown_trans HG.out HW.out.gr
            obtain ⟨b, o, q, m, d, rfl, h0, h1, h2, h3, h4, hb⟩ := hat
            have d0 := grown_cell hgw h0
            have d1 := grown_cell hgw h1
            have d2 := grown_cell hgw h2
            have d3 := grown_cell hgw h3
            have d4 := grown_cell hgw h4
            have HB := Lib.hid hb
            have HBQ := Lib.hid hb.len
            have HGR := Lib.hid hgw
            clear h0 h1 h2 h3 h4 hb he hok hgd hgw
            obtain ⟨ek, es, ep, et, eb⟩ := e
            simp only at hlen hpt hs d0 d1 d2 d3 d4 HBQ
            have HBX := Lib.hid (Box.new wr 52 [.int .u8 (ek.toNat : Int), .int .u32 (es : Int), .int .i64 ep, .int .i64 et, .slice q m d] wr.heap.size rfl)
            have HWA := Lib.hid (HW.out.grown (World.grownBy_alloc wr (.cells #[.int .u8 (ek.toNat : Int), .int .u32 (es : Int), .int .i64 ep, .int .i64 et, .slice q m d] 52) none))
            have HOF := Lib.hid ((HW.out.off (Nat.le_refl _)).grown HW.out (World.grownBy_alloc wr (.cells #[.int .u8 (ek.toNat : Int), .int .u32 (es : Int), .int .i64 ep, .int .i64 et, .slice q m d] 52) none))
            have q1 : ((ek.toNat : Int) == 1) = decide (ek = 1) := k_eq ek 1 (by decide)
            have q2 : ((ek.toNat : Int) == 2) = decide (ek = 2) := k_eq ek 2 (by decide)
            have q3 : ((ek.toNat : Int) == 3) = decide (ek = 3) := k_eq ek 3 (by decide)
            have q7 : ((ek.toNat : Int) == 7) = decide (ek = 7) := k_eq ek 7 (by decide)
            have HQ := Lib.hid (show namedE (ek.toNat : Int) = (decide (ek = 2) || decide (ek = 3)) by unfold namedE; rw [q2, q3])
            have HNM := Lib.hid (fun w => script_named (ek.toNat : Int) w)
            rw [HQ.out] at HNM
            clear q2 q3 HQ
            go_wp2_with fail
            refine ((HWA.out.grown (World.grownBy_alloc _ _ none)).raw _ 1 1 [ek] rfl (RB.one _ _ (by simp) ek _ _)).mono ?_
            rintro r w3 ⟨rfl, hW, hO⟩
            rw [rawW_fit (by simp; omega)] at hW
            obtain ⟨hbx, hof⟩ := hO _ _ _ (HBX.out.alloc _) (HOF.out.grown HWA.out (World.grownBy_alloc _ _ none))
            have HW3 := Lib.hid hW; have HBX3 := Lib.hid hbx; have HOF3 := Lib.hid hof
            have X3 := hbx.look
            clear hW hO hbx hof HWA HBX HOF d0 d1 d2 d3 d4
            by_cases e1 : ek = 1
            · rw [decide_eq_true e1] at q1
              have HO := Lib.hid (show oneB ⟨ek, es, ep, et, eb⟩ = [ek] ++ (numB eb.length 2 ++ eb) by unfold oneB; rw [if_pos e1]; rfl)
              clear e1 q7
              go_wp2_with fail
              refine (HW3.out.bytes q m d eb HBQ.out (HB.out.rb.old (grown_below (grown_trans HG.out HW3.out.gr)))).mono ?_
              rintro r w4 ⟨rfl, hW, _⟩
              rw [bytesW_fit (by omega) (by simp; omega), List.append_assoc, ← HO.out] at hW
              have HW4 := Lib.hid hW
              clear hW
              go_wp2_with fail
              go_roundw
              case rel => exact ⟨j + 1, by omega, by go_num, by rw [HNX.out]; exact HW4.out⟩
              case measure => simp [intOf]; omega
            · rw [decide_eq_false e1] at q1
              by_cases e2 : ek = 2 ∨ ek = 3
              · rw [show (decide (ek = 2) || decide (ek = 3)) = true by simpa using e2] at HNM
                have HO := Lib.hid (show oneB ⟨ek, es, ep, et, eb⟩ = [ek] ++ numB es 4 by unfold oneB; rw [if_neg e1, if_pos e2]; rfl)
                have hws : IntKind.u64.wrap (es : Int) = (es : Int) := wrap_u64 _ (by omega) (by omega)
                clear e1 e2 q7
                go_wp2_with fail
                refine (HNM.out _).mono ?_
                rintro r w4 ⟨rfl, rfl⟩
                go_wp2_with fail
                refine (HW3.out.num es (by omega) 4).mono ?_
                rintro r w4 ⟨rfl, hW, _⟩
                rw [show numW (2 + k * 520) (0, P ++ [ek]) es 4 = _ from numW_fit (n := 4) (by decide) (by decide) (by omega) (by simp; omega), List.append_assoc, ← HO.out] at hW
                have HW4 := Lib.hid hW
                clear hW
                go_wp2_with fail
                go_roundw
                case rel => exact ⟨j + 1, by omega, by go_num, by rw [HNX.out]; exact HW4.out⟩
                case measure => simp [intOf]; omega
              · rw [show (decide (ek = 2) || decide (ek = 3)) = false by simpa using e2] at HNM
                by_cases e7 : ek = 7
                · rw [decide_eq_true e7] at q7
                  obtain ⟨p0, p1, t0, t1⟩ := hpt e7
                  obtain ⟨pn, rfl⟩ : ∃ pn : Nat, ep = (pn : Int) := ⟨ep.toNat, by omega⟩
                  obtain ⟨tn, rfl⟩ : ∃ tn : Nat, et = (tn : Int) := ⟨et.toNat, by omega⟩
                  have HO := Lib.hid (show oneB ⟨ek, es, pn, tn, eb⟩ = [ek] ++ (numB pn 2 ++ numB tn 2) by unfold oneB; rw [if_neg e1, if_neg e2, if_pos e7]; rfl)
                  have hwp : IntKind.u64.wrap (pn : Int) = (pn : Int) := wrap_u64 _ p0 (by omega)
                  have hwt : IntKind.u64.wrap (tn : Int) = (tn : Int) := wrap_u64 _ t0 (by omega)
                  have hep : pn < 65536 := by omega
                  have het : tn < 65536 := by omega
                  clear e1 e2 e7 hpt
                  go_wp2_with fail
                  refine (HNM.out _).mono ?_
                  rintro r w4 ⟨rfl, rfl⟩
                  go_wp2_with fail
                  refine (HW3.out.num pn (by omega) 2).mono ?_
                  rintro r w4 ⟨rfl, hW, hO⟩
                  rw [show numW (2 + k * 520) (0, P ++ [ek]) pn 2 = _ from numW_fit (n := 2) (by decide) (by decide) (by omega) (by simp; omega)] at hW
                  obtain ⟨hbx, _⟩ := hO _ _ _ HBX3.out HOF3.out
                  have X4 := hbx.look
                  have HW4 := Lib.hid hW
                  clear hW hO hbx X3
                  go_wp2_with fail
                  refine (HW4.out.num tn (by omega) 2).mono ?_
                  rintro r w5 ⟨rfl, hW, _⟩
                  rw [show numW (2 + k * 520) (0, P ++ [ek] ++ numB pn 2) tn 2 = _ from numW_fit (n := 2) (by decide) (by decide) (by omega) (by simp [numB_length]; omega), List.append_assoc, List.append_assoc, ← HO.out] at hW
                  have HW5 := Lib.hid hW
                  clear hW
                  go_wp2_with fail
                  go_roundw
                  case rel => exact ⟨j + 1, by omega, by go_num, by rw [HNX.out]; exact HW5.out⟩
                  case measure => simp [intOf]; omega
                · rw [decide_eq_false e7] at q7
                  have HO := Lib.hid (show oneB ⟨ek, es, ep, et, eb⟩ = [ek] by unfold oneB; rw [if_neg e1, if_neg e2, if_neg e7])
                  clear e1 e2 e7
                  go_wp2_with fail
                  refine (HNM.out _).mono ?_
                  rintro r w4 ⟨rfl, rfl⟩
                  go_wp2_with fail
                  go_roundw
                  case rel => exact ⟨j + 1, by omega, by go_num, by rw [HNX.out, HO.out]; exact HW3.out⟩
                  case measure => simp [intOf]; omega
          · obtain rfl : j = k := by omega
            go_wp2_with fail
            refine HW.out.done.mono ?_
            rintro r w4 ⟨a4, n4, c4, rfl, hn4, hr4, hg4⟩
            have HN4 := Lib.hid hn4; have HR4 := Lib.hid hr4; have HG4 := Lib.hid (grown_trans HG.out hg4)
            clear hn4 hr4 hg4
            go_wp2_with fail
            go_ret2
            rw [show encE L = (numB j 2 ++ allB (L.take j), 0) from by unfold encE; rw [if_pos HALL2.out, if_neg (by rw [HN.out]; exact hlong), HN.out, List.take_of_length_le (by rw [HN.out]; exact Nat.le_refl _)]]
            exact ⟨a4, n4, c4, rfl, HN4.out, HR4.out, HG4.out⟩

end Go.Proofs.Ytomnhgcjdnhijaa
