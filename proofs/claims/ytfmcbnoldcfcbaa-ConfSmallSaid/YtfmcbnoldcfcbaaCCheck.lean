/-
  Whether a configuration may be.
-/
import Derived.Test.YtfmcbnoldcfcbaaCNamed
namespace Go.Proofs.Ytfmcbnoldcfcbaa
open Go.RowKit
set_option maxRecDepth 100000

def allNamed (c : ConfP) : Bool := (List.range c.sk.toNat).all fun s => namedF (c.p s) c.wa.toNat
def checkF (c : ConfP) : Int :=
  if numbersF c = false then 1 else if c.D.map (·.k) ≠ keysF c.sk c.wa then 8 else if c.D.any outB then 3 else if allNamed c = false then 11 else if c.ca ≤ c.se then 5 else if c.bs < (needF c : Int) then 4 else 0
def CheckRel (w : World) (c : ConfP) (m v : Nat) (i : Value) (wr : World) : Prop := ∃ s : Nat, s ≤ m ∧ i = .int .i64 s ∧ (∀ x < s, namedF (c.p x) v = true) ∧ w.grownBy wr none
theorem numbers_two {c : ConfP} (h : numbersF c = true) : ∃ m v : Nat, c.sk = (m : Int) ∧ c.wa = (v : Int) ∧ 1 ≤ m ∧ m ≤ 4 ∧ 1 ≤ v ∧ v ≤ 4 := by
  unfold numbersF btw at h
  simp only [Bool.and_eq_true, decide_eq_true_eq] at h
  exact ⟨c.sk.toNat, c.wa.toNat, by omega, by omega, by omega, by omega, by omega, by omega⟩
set_option maxHeartbeats 12800000 in
theorem conf_check (c : ConfP) (a : Option Addr) (n k : Nat) (w : World) (hL : DeclList w a c.D) (hn : c.D.length = n) (hm : n ≤ maxLen) (hbl : i64 c.bl) :
    Calls Try.prog 27 #[.agg #[.int .i64 c.sk, .int .i64 c.wa, .slice a n k, .int .u8 ((c.p 0 0).toNat : Int), .int .u8 ((c.p 0 1).toNat : Int), .int .u8 ((c.p 0 2).toNat : Int), .int .u8 ((c.p 0 3).toNat : Int), .int .u8 ((c.p 1 0).toNat : Int), .int .u8 ((c.p 1 1).toNat : Int), .int .u8 ((c.p 1 2).toNat : Int), .int .u8 ((c.p 1 3).toNat : Int), .int .u8 ((c.p 2 0).toNat : Int), .int .u8 ((c.p 2 1).toNat : Int), .int .u8 ((c.p 2 2).toNat : Int), .int .u8 ((c.p 2 3).toNat : Int), .int .u8 ((c.p 3 0).toNat : Int), .int .u8 ((c.p 3 1).toNat : Int), .int .u8 ((c.p 3 2).toNat : Int), .int .u8 ((c.p 3 3).toNat : Int), .int .i64 c.sg, .int .i64 c.od, .int .i64 c.rt, .int .i64 c.se, .int .i64 c.ca, .int .i64 c.bl, .int .i64 c.bs]] w fun r w' => r = .returned (.int .i64 (checkF c)) ∧ w.grownBy w' none := by
  have hbx := Box.new w 49 [.int .i64 c.sk, .int .i64 c.wa, .slice a n k, .int .u8 ((c.p 0 0).toNat : Int), .int .u8 ((c.p 0 1).toNat : Int), .int .u8 ((c.p 0 2).toNat : Int), .int .u8 ((c.p 0 3).toNat : Int), .int .u8 ((c.p 1 0).toNat : Int), .int .u8 ((c.p 1 1).toNat : Int), .int .u8 ((c.p 1 2).toNat : Int), .int .u8 ((c.p 1 3).toNat : Int), .int .u8 ((c.p 2 0).toNat : Int), .int .u8 ((c.p 2 1).toNat : Int), .int .u8 ((c.p 2 2).toNat : Int), .int .u8 ((c.p 2 3).toNat : Int), .int .u8 ((c.p 3 0).toNat : Int), .int .u8 ((c.p 3 1).toNat : Int), .int .u8 ((c.p 3 2).toNat : Int), .int .u8 ((c.p 3 3).toNat : Int), .int .i64 c.sg, .int .i64 c.od, .int .i64 c.rt, .int .i64 c.se, .int .i64 c.ca, .int .i64 c.bl, .int .i64 c.bs] w.heap.size rfl
  have HR := Lib.hid (range_conf hbx)
  have HBX := Lib.hid hbx
  have HG := Lib.hid (World.grownBy_alloc w (.cells #[.int .i64 c.sk, .int .i64 c.wa, .slice a n k, .int .u8 ((c.p 0 0).toNat : Int), .int .u8 ((c.p 0 1).toNat : Int), .int .u8 ((c.p 0 2).toNat : Int), .int .u8 ((c.p 0 3).toNat : Int), .int .u8 ((c.p 1 0).toNat : Int), .int .u8 ((c.p 1 1).toNat : Int), .int .u8 ((c.p 1 2).toNat : Int), .int .u8 ((c.p 1 3).toNat : Int), .int .u8 ((c.p 2 0).toNat : Int), .int .u8 ((c.p 2 1).toNat : Int), .int .u8 ((c.p 2 2).toNat : Int), .int .u8 ((c.p 2 3).toNat : Int), .int .u8 ((c.p 3 0).toNat : Int), .int .u8 ((c.p 3 1).toNat : Int), .int .u8 ((c.p 3 2).toNat : Int), .int .u8 ((c.p 3 3).toNat : Int), .int .i64 c.sg, .int .i64 c.od, .int .i64 c.rt, .int .i64 c.se, .int .i64 c.ca, .int .i64 c.bl, .int .i64 c.bs] 49) none)
  have HNU := Lib.hid (fun u => conf_numbers c a n k u)
  have HL := Lib.hid hL; have HN := Lib.hid hn
  have hmx : n ≤ 9223372036854775807 := hm
  have HK := Lib.hid (fun u => key_all c.sk c.wa u)
  clear hbx hL hn hm
  by_cases hnu : numbersF c = false
  · rw [show checkF c = 1 from if_pos hnu]
    rw [hnu] at HNU
    clear hnu
    go_enter Try.func27, Try.ntmps27
    go_wp2_with (refine wpList_load_mid (op := ⟨some 4, _, _, _, _, _⟩) rfl 49 _ rfl w.heap.size 0 rfl [.int .i64 c.sk, .int .i64 c.wa, .slice a n k, .int .u8 ((c.p 0 0).toNat : Int), .int .u8 ((c.p 0 1).toNat : Int), .int .u8 ((c.p 0 2).toNat : Int), .int .u8 ((c.p 0 3).toNat : Int), .int .u8 ((c.p 1 0).toNat : Int), .int .u8 ((c.p 1 1).toNat : Int), .int .u8 ((c.p 1 2).toNat : Int), .int .u8 ((c.p 1 3).toNat : Int), .int .u8 ((c.p 2 0).toNat : Int), .int .u8 ((c.p 2 1).toNat : Int), .int .u8 ((c.p 2 2).toNat : Int), .int .u8 ((c.p 2 3).toNat : Int), .int .u8 ((c.p 3 0).toNat : Int), .int .u8 ((c.p 3 1).toNat : Int), .int .u8 ((c.p 3 2).toNat : Int), .int .u8 ((c.p 3 3).toNat : Int), .int .i64 c.sg, .int .i64 c.od, .int .i64 c.rt, .int .i64 c.se, .int .i64 c.ca, .int .i64 c.bl, .int .i64 c.bs] _ HR.out Try.underlying49 rfl info_conf ?_)
    go_wp2_with fail
    refine (HNU.out _).mono ?_
    rintro r w2 ⟨rfl, hg2⟩
    have HG2 := Lib.hid (grown_trans HG.out hg2)
    clear hg2
    go_wp2_with fail
    go_ret
    exact ⟨rfl, HG2.out⟩
  · rw [Bool.not_eq_false] at hnu
    rw [hnu] at HNU
    obtain ⟨Z, hZ⟩ : ∃ Z, checkF c = Z := ⟨_, rfl⟩
    rw [hZ]
    obtain ⟨e1, he1⟩ : ∃ e, decide (c.D.map (·.k) = keysF c.sk c.wa) = e := ⟨_, rfl⟩
    obtain ⟨e2, he2⟩ : ∃ e, c.D.any outB = e := ⟨_, rfl⟩
    have A8 := Lib.hid (fun h : e1 = false => show Z = 8 by
      rw [← hZ]
      unfold checkF
      rw [if_neg (by rw [hnu]; simp), if_pos (of_decide_eq_false (he1.trans h))])
    have A3 := Lib.hid (fun (h : e1 = true) (h2 : e2 = true) => show Z = 3 by
      rw [← hZ]
      unfold checkF
      rw [if_neg (by rw [hnu]; simp), if_neg (by simpa using of_decide_eq_true (he1.trans h)), if_pos (he2.trans h2)])
    have A11 := Lib.hid (fun (h : e1 = true) (h2 : e2 = false) (h3 : allNamed c = false) => show Z = 11 by
      rw [← hZ]
      unfold checkF
      rw [if_neg (by rw [hnu]; simp), if_neg (by simpa using of_decide_eq_true (he1.trans h)), if_neg (by rw [he2.trans h2]; simp), if_pos h3])
    have A0 := Lib.hid (fun (h : e1 = true) (h2 : e2 = false) (h3 : allNamed c = true) => show Z = if c.ca ≤ c.se then 5 else if c.bs < (needF c : Int) then 4 else 0 by
      rw [← hZ]
      unfold checkF
      rw [if_neg (by rw [hnu]; simp), if_neg (by simpa using of_decide_eq_true (he1.trans h)), if_neg (by rw [he2.trans h2]; simp), if_neg (by rw [h3]; simp)])
    have HEQ := Lib.hid (fun u a3 c3 (hg : w.grownBy u none) (hk : KeyList u a3 (keysF c.sk c.wa)) => he1 ▸ decl_equal a n k c.D a3 (keysF c.sk c.wa).length c3 (keysF c.sk c.wa) u (HL.out.grown hg) HN.out hk rfl hmx)
    have HCN := Lib.hid (fun u (hg : w.grownBy u none) => he2 ▸ decl_contains a n k c.D u (HL.out.grown hg) HN.out hmx)
    obtain ⟨F, hF⟩ : ∃ F, keysF c.sk c.wa = F := ⟨_, rfl⟩
    rw [hF] at HK HEQ
    have XC := look_later HBX.out
    obtain ⟨m, v, hsk, hwa, hm1, hm4, hv1, hv4⟩ := numbers_two hnu
    have A11 := Lib.hid (fun (h : e1 = true) (h2 : e2 = false) (s : Nat) (hs : s < m) (h3 : namedF (c.p s) v = false) => A11.out h h2 (by
      unfold allNamed
      rw [hsk, hwa, Int.toNat_natCast, Int.toNat_natCast, List.all_eq_false]
      exact ⟨s, List.mem_range.2 hs, by rw [h3]; simp⟩))
    have A0 := Lib.hid (fun (h : e1 = true) (h2 : e2 = false) (h3 : ∀ s < m, namedF (c.p s) v = true) => A0.out h h2 (by
      unfold allNamed
      rw [hsk, hwa, Int.toNat_natCast, Int.toNat_natCast, List.all_eq_true]
      exact fun s hs => h3 s (List.mem_range.1 hs)))
    have HNM := Lib.hid (fun u (s : Nat) (hs : s < m) => conf_named c a n k s v (by omega) hv4 hwa u)
    have HND := Lib.hid (fun u => conf_need c a n k u hbl)
    have HSK := Lib.hid hsk
    have HM4 := Lib.hid hm4
    clear hnu he1 he2 hF hZ hbl hsk hwa hm1 hm4 hv1 hv4
    clear hmx HL HN
    go_enter Try.func27, Try.ntmps27
    go_wp2_with (refine wpList_load_mid (op := ⟨some 4, _, _, _, _, _⟩) rfl 49 _ rfl w.heap.size 0 rfl [.int .i64 c.sk, .int .i64 c.wa, .slice a n k, .int .u8 ((c.p 0 0).toNat : Int), .int .u8 ((c.p 0 1).toNat : Int), .int .u8 ((c.p 0 2).toNat : Int), .int .u8 ((c.p 0 3).toNat : Int), .int .u8 ((c.p 1 0).toNat : Int), .int .u8 ((c.p 1 1).toNat : Int), .int .u8 ((c.p 1 2).toNat : Int), .int .u8 ((c.p 1 3).toNat : Int), .int .u8 ((c.p 2 0).toNat : Int), .int .u8 ((c.p 2 1).toNat : Int), .int .u8 ((c.p 2 2).toNat : Int), .int .u8 ((c.p 2 3).toNat : Int), .int .u8 ((c.p 3 0).toNat : Int), .int .u8 ((c.p 3 1).toNat : Int), .int .u8 ((c.p 3 2).toNat : Int), .int .u8 ((c.p 3 3).toNat : Int), .int .i64 c.sg, .int .i64 c.od, .int .i64 c.rt, .int .i64 c.se, .int .i64 c.ca, .int .i64 c.bl, .int .i64 c.bs] _ HR.out Try.underlying49 rfl info_conf ?_)
    go_wp2_with fail
    generalize w.alloc (.cells #[.int .i64 c.sk, .int .i64 c.wa, .slice a n k, .int .u8 ((c.p 0 0).toNat : Int), .int .u8 ((c.p 0 1).toNat : Int), .int .u8 ((c.p 0 2).toNat : Int), .int .u8 ((c.p 0 3).toNat : Int), .int .u8 ((c.p 1 0).toNat : Int), .int .u8 ((c.p 1 1).toNat : Int), .int .u8 ((c.p 1 2).toNat : Int), .int .u8 ((c.p 1 3).toNat : Int), .int .u8 ((c.p 2 0).toNat : Int), .int .u8 ((c.p 2 1).toNat : Int), .int .u8 ((c.p 2 2).toNat : Int), .int .u8 ((c.p 2 3).toNat : Int), .int .u8 ((c.p 3 0).toNat : Int), .int .u8 ((c.p 3 1).toNat : Int), .int .u8 ((c.p 3 2).toNat : Int), .int .u8 ((c.p 3 3).toNat : Int), .int .i64 c.sg, .int .i64 c.od, .int .i64 c.rt, .int .i64 c.se, .int .i64 c.ca, .int .i64 c.bl, .int .i64 c.bs] 49) = w1 at *
    refine (HNU.out _).mono ?_
    rintro r w2 ⟨rfl, hg2⟩
    have HG2 := Lib.hid (grown_trans HG.out hg2)
    have HB2 := Lib.hid (HBX.out.grown hg2)
    clear HR HBX
    have XC2 := fun w' (h : w2.grownBy w' none) => XC w' (growT h hg2)
    have hS0 : w2.grownBy w2.drew none := grown_drew1 _
    have hS1 : w2.grownBy w2 none := World.grownBy.refl _ _
    clear hg2 XC
    go_wp2_with fail
    go_region_held_law (fun w' => w2.grownBy w' none) (with_reducible (first | assumption | exact keepA' (by assumption))) (first
      | (go_at_call 53; (with_reducible refine (HK.out _).mono ?_); rintro r w3 ⟨a3, c3, rfl, hl3, hg3⟩; have hSa := growT hg3 (by with_reducible assumption))
      | (go_at_call 52; (with_reducible refine (HEQ.out _ _ _ (growT (by assumption : w2.grownBy _ none) HG2.out) hl3).mono ?_); rintro r w4 ⟨rfl, hg4⟩; have hSb := growT hg4 (by with_reducible assumption)))
    all_goals (
      have HG4 := Lib.hid (grown_trans HG2.out hSb)
      have XC4 := fun w' (h : w4.grownBy w' none) => XC2 w' (growT h hSb)
      have hT1 : w4.grownBy w4 none := World.grownBy.refl _ _
      have HB4 := Lib.hid (HB2.out.grown hSb)
      clear HB2
      clear hSa hSb hg3 hg4 hl3 hS0 hS1 XC2
      clear HEQ HK HNU
      cases e1
      · have HCF := Lib.hid (A8.out (by simp))
        clear A8 A3 A11 A0
        go_wp2_with fail
        go_ret
        exact ⟨ret_i64 HCF.out.symm, HG4.out⟩
      · clear A8
        go_wp2_with fail
        refine (HCN.out _ HG4.out).mono ?_
        rintro r w5 ⟨rfl, hg5⟩
        have XC5 := fun w' (h : w5.grownBy w' none) => XC4 w' (growT h hg5)
        have HG5 := Lib.hid (grown_trans HG4.out hg5)
        have HB5 := Lib.hid (HB4.out.grown hg5)
        clear HB4
        have hU1 : w5.grownBy w5 none := World.grownBy.refl _ _
        clear hg5 XC4 hT1 HCN
        cases e2
        · clear A3
          go_wp2_with fail
          go_loopw [21] (fun i wr => CheckRel w5 c m v i wr) (fun i _ => m - (intOf i).toNat)
          case atStart => exact ⟨0, Nat.zero_le _, rfl, fun x h => absurd h (by omega), World.grownBy.refl _ _⟩
          case round =>
            obtain ⟨s, hs, rfl, hno, hg⟩ := hrel
            have HBR := Lib.hid (HB5.out.grown hg)
            have HRR := Lib.hid (range_conf HBR.out)
            have HGR := Lib.hid hg
            have HNO := Lib.hid hno
            have XR := HBR.out.look
            clear XC5 hU1 hno hg
            by_cases hlt : s < m
            · have i1 : (s : Int) < c.sk := by rw [HSK.out]; omega
              clear A0 HND XR
              obtain ⟨e3, he3⟩ : ∃ e, namedF (c.p s) v = e := ⟨_, rfl⟩
              have HNS := Lib.hid (fun u => he3 ▸ HNM.out u s hlt)
              have A11 := Lib.hid (fun h : e3 = false => A11.out (by simp) (by simp) s hlt (he3.trans h))
              have HNN := Lib.hid (fun h : e3 = true => show ∀ x < s + 1, namedF (c.p x) v = true from fun x hx => by
                by_cases hxs : x = s
                · rw [hxs]; exact he3.trans h
                · exact HNO.out x (by omega))
              clear he3
              go_wp2_with (refine wpList_load_mid (op := ⟨some 24, _, _, _, _, _⟩) rfl 49 _ rfl w.heap.size 0 rfl [.int .i64 c.sk, .int .i64 c.wa, .slice a n k, .int .u8 ((c.p 0 0).toNat : Int), .int .u8 ((c.p 0 1).toNat : Int), .int .u8 ((c.p 0 2).toNat : Int), .int .u8 ((c.p 0 3).toNat : Int), .int .u8 ((c.p 1 0).toNat : Int), .int .u8 ((c.p 1 1).toNat : Int), .int .u8 ((c.p 1 2).toNat : Int), .int .u8 ((c.p 1 3).toNat : Int), .int .u8 ((c.p 2 0).toNat : Int), .int .u8 ((c.p 2 1).toNat : Int), .int .u8 ((c.p 2 2).toNat : Int), .int .u8 ((c.p 2 3).toNat : Int), .int .u8 ((c.p 3 0).toNat : Int), .int .u8 ((c.p 3 1).toNat : Int), .int .u8 ((c.p 3 2).toNat : Int), .int .u8 ((c.p 3 3).toNat : Int), .int .i64 c.sg, .int .i64 c.od, .int .i64 c.rt, .int .i64 c.se, .int .i64 c.ca, .int .i64 c.bl, .int .i64 c.bs] _ HRR.out Try.underlying49 rfl info_conf ?_)
              go_wp2_with fail
              refine (HNS.out _).mono ?_
              rintro r w6 ⟨rfl, hg6⟩
              have HG6 := Lib.hid (grown_trans HGR.out hg6)
              clear hg6
              cases e3
              · have HCF := Lib.hid (A11.out rfl)
                clear A11 HNN
                go_wp2_with fail
                go_ret
                exact ⟨ret_i64 HCF.out.symm, grown_trans HG5.out HG6.out⟩
              · have hm4 := HM4.out
                go_wp2_with fail
                go_roundw
                all_goals first
                  | (refine ⟨s + 1, by omega, by go_num, HNN.out (by simp), HG6.out⟩; done)
                  | (simp [intOf]; omega)

            · obtain rfl : s = m := by omega
              have i1 : ¬ (s : Int) < c.sk := by rw [HSK.out]; omega
              have AZ := Lib.hid (A0.out (by simp) (by simp) HNO.out)
              clear A0 A11 HNM HNO
              by_cases hcap : c.ca ≤ c.se
              · have HCF := Lib.hid (show Z = 5 by rw [AZ.out, if_pos hcap])
                clear AZ
                go_wp2_with fail
                go_ret
                exact ⟨ret_i64 HCF.out.symm, grown_trans HG5.out HGR.out⟩
              · have AZ := Lib.hid (show Z = if c.bs < (needF c : Int) then 4 else 0 by rw [AZ.out, if_neg hcap])
                obtain ⟨z, hz⟩ : ∃ z : Nat, needF c = z := ⟨_, rfl⟩
                rw [hz] at HND AZ
                clear hz
                have hw0 : wr.grownBy wr.drew none := grown_drew1 _
                have hw1 : wr.grownBy wr none := World.grownBy.refl _ _
                go_wp2_with fail
                obtain ⟨N, hN⟩ : ∃ N : Nat, N = 26 := ⟨_, rfl⟩
                have HLD := Lib.hid (fun u (hg : wr.grownBy u none) => load_row u w.heap.size [.int .i64 c.sk, .int .i64 c.wa, .slice a n k, .int .u8 ((c.p 0 0).toNat : Int), .int .u8 ((c.p 0 1).toNat : Int), .int .u8 ((c.p 0 2).toNat : Int), .int .u8 ((c.p 0 3).toNat : Int), .int .u8 ((c.p 1 0).toNat : Int), .int .u8 ((c.p 1 1).toNat : Int), .int .u8 ((c.p 1 2).toNat : Int), .int .u8 ((c.p 1 3).toNat : Int), .int .u8 ((c.p 2 0).toNat : Int), .int .u8 ((c.p 2 1).toNat : Int), .int .u8 ((c.p 2 2).toNat : Int), .int .u8 ((c.p 2 3).toNat : Int), .int .u8 ((c.p 3 0).toNat : Int), .int .u8 ((c.p 3 1).toNat : Int), .int .u8 ((c.p 3 2).toNat : Int), .int .u8 ((c.p 3 3).toNat : Int), .int .i64 c.sg, .int .i64 c.od, .int .i64 c.rt, .int .i64 c.se, .int .i64 c.ca, .int .i64 c.bl, .int .i64 c.bs] N (by rw [hN]; rfl) (range_conf (HBR.out.grown hg)))
                have ld := HLD.out
                have XW := look_later HBR.out
                obtain ⟨T, hT⟩ : ∃ T : TypeId, T = 49 := ⟨_, rfl⟩
                have t1 : ∀ u, (isAgg T).run Try.prog u = .ok true u := fun u => by rw [hT]; exact Try.isAgg49 u
                have t2 : ∀ u, (sizeOf T).run Try.prog u = .ok N u := fun u => by rw [hT, hN]; exact Try.sizeOf49 u
                rw [show Op.load 49 (Operand.tmp 1) = Op.load T (Operand.tmp 1) from by rw [hT]]
                have HTT := Lib.hid hT; have HNN := Lib.hid hN
                clear hT hN XR
                go_region_held_law (fun w' => wr.grownBy w' none) (with_reducible (first | assumption | exact keepA' (by assumption))) (first
                  | (go_at_call 33; (with_reducible refine (HND.out _).mono ?_); rintro r w7 ⟨rfl, hg7⟩; have hSa := growT hg7 (by with_reducible assumption)))
                all_goals (
                  have HG7 := Lib.hid (grown_trans HG5.out (grown_trans HGR.out (by with_reducible assumption)))
                  by_cases hz : c.bs < (z : Int)
                  · have HCF := Lib.hid (show Z = 4 by rw [AZ.out, if_pos hz])
                    clear AZ
                    go_wp2_with fail
                    go_ret
                    exact ⟨ret_i64 HCF.out.symm, HG7.out⟩
                  · have HCF := Lib.hid (show Z = 0 by rw [AZ.out, if_neg hz])
                    clear AZ
                    go_wp2_with fail
                    go_ret
                    exact ⟨ret_i64 HCF.out.symm, HG7.out⟩)
        · have HCF := Lib.hid (A3.out (by simp) (by simp))
          clear A3 A11 A0
          go_wp2_with fail
          go_ret
          exact ⟨ret_i64 HCF.out.symm, HG5.out⟩)

end Go.Proofs.Ytfmcbnoldcfcbaa
