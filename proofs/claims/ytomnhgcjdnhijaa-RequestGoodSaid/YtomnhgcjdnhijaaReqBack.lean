/-
  RequestBack.
-/
import Derived.Test.YtomnhgcjdnhijaaReqPlain
namespace Go.Proofs.Ytomnhgcjdnhijaa
open Go.RowKit
set_option maxRecDepth 100000

def ReqL0 : ReqP := ⟨3, 258, 0, [], 0, 0, 0, 0⟩
theorem reqL0_enc : encR ReqL0 = ([3, 2, 1, 0, 0], 0) := by decide +kernel
theorem reqL0_ok : ReqL0.ok := ⟨by decide, by unfold i64ok ReqL0; simp, fun _ h => by cases h⟩
theorem reqL0_dec : decR [3, 2, 1, 0, 0] = (ReqL0, 0) := (dec_encR reqL0_enc reqL0_ok).1
theorem reqL0_B (w : World) : ReqB w ReqL0 none 0 0 := ⟨rfl, LineList.nil _ _, by simp [maxLen]⟩
theorem plainL0 : plainF 3 258 0 0 0 0 0 0 = true := by decide +kernel
set_option maxHeartbeats 3200000 in
theorem request_works (w : World) : Calls Try.prog 10 #[] w fun r w' => r = .returned (.bool true) ∧ w.grownBy w' none := by
  have HE := Lib.hid (show Calls Try.prog 11 #[.agg #[.int .u8 3, .int .u32 258, .int .u8 0, .slice none 0 0, .int .u8 0, .int .u8 0, .int .u8 0, .int .i64 0]] w (EncQPost w ([3, 2, 1, 0, 0], 0)) by
    have h := req_encode ReqL0 none 0 0 w (reqL0_B w) reqL0_ok
    rw [reqL0_enc] at h
    exact h)
  go_enter Try.func10, Try.ntmps10
  go_wp2_with fail
  refine HE.out.mono ?_
  rintro r w1 ⟨a1, n1, c1, rfl, hn1, hr1, hg1⟩
  simp only at hn1 hr1
  have HD := Lib.hid (req_decode a1 n1 c1 _ w1 hn1 hr1 (by rw [← hn1]; simp))
  rw [reqL0_dec] at HD
  have ST := str_of (c := c1) hr1 hn1
  rw [show strB [3, 2, 1, 0, 0] = ⟨#[3, 2, 1, 0, 0]⟩ from rfl] at ST
  have HG1 := Lib.hid hg1
  clear hn1 hr1 hg1
  go_wp2_with fail
  refine HD.out.mono ?_
  rintro r w2 ⟨a2, n2, c2, he, hB, hg2⟩
  obtain rfl : n2 = 0 := hB.len.symm
  have he' : r = .returned (.tuple #[.agg #[.int .u8 3, .int .u32 258, .int .u8 0, .slice a2 0 c2, .int .u8 0, .int .u8 0, .int .u8 0, .int .i64 0], .int .i64 0]) := he
  subst he'
  have hgr := fun o => grown_trans hg2 (World.grownBy_alloc w2 o none)
  have hb0 := Box.new w2 25 [.int .u8 3, .int .u32 258, .int .u8 0, .slice a2 0 c2, .int .u8 0, .int .u8 0, .int .u8 0, .int .i64 0] w2.heap.size rfl
  have XL := hb0.look
  have XO := hb0.open
  clear he hB hg2 hb0
  go_wp2_with fail
  refine (req_plain 3 258 0 a2 0 c2 0 0 0 0 _).mono ?_
  rintro r w3 ⟨rfl, hg3⟩
  rw [plainL0]
  have HG3 := Lib.hid (grown_trans HG1.out (grown_trans (hgr _) hg3))
  clear hg3
  go_wp2_with fail
  go_ret
  exact ⟨rfl, HG3.out⟩


set_option maxHeartbeats 6400000 in
theorem requestBack_walk (r : ReqP) (a : Option Addr) (n c : Nat) (a' : Option Addr) (len cap : Nat) (l0 : List UInt8) (w : World) (hq : ReqB w r a n c) (ok : r.ok) (hb : InB w a' len cap l0) :
    Calls Try.prog 7 #[.agg #[.int .u8 (r.k.toNat : Int), .int .u32 (r.o : Int), .int .u8 (r.p.toNat : Int), .slice a n c, .int .u8 (r.s.toNat : Int), .int .u8 (r.f.toNat : Int), .int .u8 (r.t.toNat : Int), .int .i64 r.q], .slice a' len cap] w fun e w' => e = .returned (.bool true) ∧ Below w.heap.size w w' := by
  obtain ⟨k, hk, hk2, _, hmin⟩ := min_any len 200 (by decide)
  obtain ⟨hbl, hbr, hbc⟩ := hb.cut hk
  have h1 := hb.cap_le
  have hmx := hb.max
  generalize l0.take k = l at *
  have i0 : (0 : Int) ≤ (k : Int) := by omega
  have i1 : (k : Int) ≤ (len : Int) := by omega
  have i2 : (k : Int) ≤ (cap : Int) := by omega
  have hk2' : k ≤ 200 := by omega
  have HE := Lib.hid (fun u (hg : w.grownBy u none) => req_encode r a n c u (hq.grown hg) ok)
  have HD := Lib.hid (fun u (hg : w.grownBy u none) => req_decode a' k cap l u hbl (hbr.old (grown_below hg)) (by omega))
  obtain ⟨⟨lb, eb⟩, he⟩ : ∃ t, encR r = t := ⟨_, rfl⟩
  obtain ⟨⟨M, ed⟩, hd⟩ : ∃ t, decR l = t := ⟨_, rfl⟩
  rw [he] at HE
  rw [hd] at HD
  have HLB := Lib.hid he; have HLD := Lib.hid hd; have HOK := Lib.hid ok; have HQ := Lib.hid hq; have HBR := Lib.hid hbr; have HBL := Lib.hid hbl
  obtain ⟨RL, hRL⟩ : ∃ L : List Value, [.int .u8 (r.k.toNat : Int), .int .u32 (r.o : Int), .int .u8 (r.p.toNat : Int), .slice a n c, .int .u8 (r.s.toNat : Int), .int .u8 (r.f.toNat : Int), .int .u8 (r.t.toNat : Int), .int .i64 r.q] = L := ⟨_, rfl⟩
  have hW := World.grownBy_alloc w (.cells #[.int .u8 (r.k.toNat : Int), .int .u32 (r.o : Int), .int .u8 (r.p.toNat : Int), .slice a n c, .int .u8 (r.s.toNat : Int), .int .u8 (r.f.toNat : Int), .int .u8 (r.t.toNat : Int), .int .i64 r.q] 25) none
  have hX := Box.new w 25 [.int .u8 (r.k.toNat : Int), .int .u32 (r.o : Int), .int .u8 (r.p.toNat : Int), .slice a n c, .int .u8 (r.s.toNat : Int), .int .u8 (r.f.toNat : Int), .int .u8 (r.t.toNat : Int), .int .i64 r.q] w.heap.size rfl
  have HSS := Lib.hid (fun u (hg : w.grownBy u none) => req_same r.k.toNat r.o r.p.toNat a n c r.L r.s.toNat r.f.toNat r.t.toNat r.q r.k.toNat r.o r.p.toNat a n c r.L r.s.toNat r.f.toNat r.t.toNat r.q u (hq.list.grown hg) hq.len (hq.list.grown hg) hq.len hq.max)
  rw [sameQ_self] at HSS
  have XL := hX.look
  have hnm : n ≤ 9223372036854775807 := hq.max
  have HX := Lib.hid hX; have HW := Lib.hid hW
  clear hRL hX hW hq ok hb hbl hbr hbc hk2 hmx he hd h1
  go_enter Try.func7, Try.ntmps7
  by_cases h20 : 20 < n
  · have h20' : (20 : Int) < (n : Int) := by omega
    go_wp2_with fail
    refine (request_works _).mono ?_
    rintro e w2 ⟨rfl, hg2⟩
    have HG2 := Lib.hid (grown_trans HW.out hg2)
    clear hg2
    go_wp2_with fail
    go_ret
    exact ⟨rfl, grown_below HG2.out⟩
  · have h20' : (n : Int) ≤ 20 := by omega
    go_wp2_with fail
    generalize w.alloc (.cells #[.int .u8 (r.k.toNat : Int), .int .u32 (r.o : Int), .int .u8 (r.p.toNat : Int), .slice a n c, .int .u8 (r.s.toNat : Int), .int .u8 (r.f.toNat : Int), .int .u8 (r.t.toNat : Int), .int .i64 r.q] 25) = w1 at *
    refine (HE.out _ HW.out).mono ?_
    rintro e w2 ⟨a2, n2, c2, rfl, hn2, hr2, hg2⟩
    have HN2 := Lib.hid hn2; have HR2 := Lib.hid hr2
    have HG2 := Lib.hid hg2
    clear hn2 hr2 hg2 XL
    go_upto_if 29 with (fail)
    go_cut [] (fun wx => w1.grownBy wx none)
    case first =>
      by_cases heb : eb = 0
      · subst heb
        have hlaw := dec_encR HLB.out HOK.out
        have HDL := Lib.hid (req_decode a2 n2 c2 lb w2 HN2.out HR2.out (by rw [← HN2.out]; omega))
        rw [hlaw.1] at HDL
        clear hlaw
        go_wp2_with fail
        refine HDL.out.mono ?_
        rintro e w3 ⟨a3, n3, c3, rfl, hB3, hg3⟩
        have hw3 := grown_trans HW.out (grown_trans HG2.out hg3)
        have HS3 := Lib.hid (fun u (hg : w3.grownBy u none) => req_same r.k.toNat r.o r.p.toNat a3 n3 c3 r.L r.s.toNat r.f.toNat r.t.toNat r.q r.k.toNat r.o r.p.toNat a n c r.L r.s.toNat r.f.toNat r.t.toNat r.q u (hB3.list.grown hg) hB3.len (HQ.out.list.grown (grown_trans hw3 hg)) HQ.out.len hB3.max)
        have HR3 := Lib.hid (fun u (hg : w3.grownBy u none) => ref_sameQ r.k.toNat r.o r.p.toNat a3 n3 c3 r.L r.s.toNat r.f.toNat r.t.toNat r.q r.k.toNat r.o r.p.toNat a n c r.L r.s.toNat r.f.toNat r.t.toNat r.q u (hB3.list.grown hg) hB3.len (HQ.out.list.grown (grown_trans hw3 hg)) HQ.out.len hB3.max)
        rw [sameQ_self] at HS3 HR3
        have HG3 := Lib.hid (grown_trans HG2.out hg3)
        have XR := ((HX.out.grown HG3.out).alloc (.cells #[.int .u8 (r.k.toNat : Int), .int .u32 (r.o : Int), .int .u8 (r.p.toNat : Int), .slice a3 n3 c3, .int .u8 (r.s.toNat : Int), .int .u8 (r.f.toNat : Int), .int .u8 (r.t.toNat : Int), .int .i64 r.q] 25))
        have XN := Box.new w3 25 [.int .u8 (r.k.toNat : Int), .int .u32 (r.o : Int), .int .u8 (r.p.toNat : Int), .slice a3 n3 c3, .int .u8 (r.s.toNat : Int), .int .u8 (r.f.toNat : Int), .int .u8 (r.t.toNat : Int), .int .i64 r.q] w3.heap.size rfl
        have HXR := Lib.hid XR; have HXN := Lib.hid XN
        have XRL := XR.look
        have XNL := XN.look
        clear hB3 hg3 hw3 XR XN
        go_wp2_with fail
        refine (HS3.out _ (World.grownBy_alloc _ _ none)).mono ?_
        rintro e w4 ⟨rfl, hg4⟩
        have HG4 := Lib.hid (grown_trans (World.grownBy_alloc w3 _ none) hg4)
        have YRL := (HXR.out.grown hg4).look
        have YNL := (HXN.out.grown hg4).look
        clear hg4 XRL XNL
        go_wp2_with fail
        refine (HR3.out _ HG4.out).mono ?_
        rintro e w5 ⟨rfl, hg5⟩
        have HG5 := Lib.hid (grown_trans HG3.out (grown_trans HG4.out hg5))
        clear hg5
        go_wp2_with fail
        go_meet
        exact HG5.out
      · have h0 : (eb == 0) = false := by simpa using heb
        clear heb
        go_wp2_with fail
        go_meet
        exact HG2.out
    case rest =>
      have HC := Lib.hid hcut
      have HC0 := Lib.hid (grown_trans HW.out hcut)
      clear hcut
      go_wp2_with fail
      refine (HD.out _ HC0.out).mono ?_
      rintro e w3 ⟨a3, n3, c3, rfl, hB3, hg3⟩
      have hw3 := grown_trans HC0.out hg3
      have HG3 := Lib.hid (grown_trans HC.out hg3)
      have XR := ((HX.out.grown HG3.out).alloc (.cells #[.int .u8 (M.k.toNat : Int), .int .u32 (M.o : Int), .int .u8 (M.p.toNat : Int), .slice a3 n3 c3, .int .u8 (M.s.toNat : Int), .int .u8 (M.f.toNat : Int), .int .u8 (M.t.toNat : Int), .int .i64 M.q] 25))
      have XN := Box.new w3 25 [.int .u8 (M.k.toNat : Int), .int .u32 (M.o : Int), .int .u8 (M.p.toNat : Int), .slice a3 n3 c3, .int .u8 (M.s.toNat : Int), .int .u8 (M.f.toNat : Int), .int .u8 (M.t.toNat : Int), .int .i64 M.q] w3.heap.size rfl
      have hg3a := grown_trans HG3.out (World.grownBy_alloc w3 (.cells #[.int .u8 (M.k.toNat : Int), .int .u32 (M.o : Int), .int .u8 (M.p.toNat : Int), .slice a3 n3 c3, .int .u8 (M.s.toNat : Int), .int .u8 (M.f.toNat : Int), .int .u8 (M.t.toNat : Int), .int .i64 M.q] 25) none)
      have HB3 := Lib.hid (hB3.grown (World.grownBy_alloc w3 (.cells #[.int .u8 (M.k.toNat : Int), .int .u32 (M.o : Int), .int .u8 (M.p.toNat : Int), .slice a3 n3 c3, .int .u8 (M.s.toNat : Int), .int .u8 (M.f.toNat : Int), .int .u8 (M.t.toNat : Int), .int .i64 M.q] 25) none))
      have HGA := Lib.hid hg3a
      have HXR := Lib.hid XR; have HXN := Lib.hid XN
      have XRL := XR.look
      have XNL := XN.look
      clear hB3 hg3 hw3 XR XN hg3a
      by_cases hed : ed = 0
      · subst hed
        obtain ⟨l1, l2, l3⟩ := enc_decR HLD.out
        have HEM := Lib.hid (req_encode M a3 n3 c3 _ HB3.out l3)
        rw [l1] at HEM
        have HPL := Lib.hid (fun u => req_plain M.k.toNat M.o M.p.toNat a3 n3 c3 M.s.toNat M.f.toNat M.t.toNat M.q u)
        rw [show plainF (M.k.toNat : Int) M.o M.p.toNat n3 M.s.toNat M.f.toNat M.t.toNat M.q = true from by rw [← l2, ← HB3.out.len]; rfl] at HPL
        clear l1 l2 l3
        go_wp2_with fail
        refine HEM.out.mono ?_
        rintro e w4 ⟨a4, n4, c4, rfl, hn4, hr4, hg4⟩
        have hs4 := string_bytes a4 n4 c4 _ w4 hr4 hn4
        have hs5 := string_bytes a' k cap _ w4 (HBR.out.old (grown_below (grown_trans HW.out (grown_trans HGA.out hg4)))) HBL.out
        have HG4 := Lib.hid (grown_trans HGA.out hg4)
        have YRL := (HXR.out.grown hg4).look
        have YNL := (HXN.out.grown hg4).look
        have HYR := Lib.hid (HXR.out.grown hg4)
        clear hn4 hr4 hg4 XRL XNL
        go_wp2_with fail
        refine (HPL.out _).mono ?_
        rintro e w5 ⟨rfl, hg5⟩
        have HG5 := Lib.hid (grown_trans HG4.out hg5)
        have ZRL := (HYR.out.grown hg5).look
        clear hg5 YRL YNL
        go_wp2_with fail
        refine (HSS.out _ (grown_trans HW.out HG5.out)).mono ?_
        rintro e w6 ⟨rfl, hg6⟩
        have HG6 := Lib.hid (grown_trans HG5.out hg6)
        clear hg6 ZRL
        go_wp2_with fail
        refine (request_works _).mono ?_
        rintro e w7 ⟨rfl, hg7⟩
        have HG7 := Lib.hid (grown_trans HW.out (grown_trans HG6.out hg7))
        clear hg7
        go_wp2_with fail
        go_ret
        exact ⟨rfl, grown_below HG7.out⟩
      · have h0 : (ed == 0) = false := by simpa using hed
        clear hed
        go_wp2_with fail
        refine (HSS.out _ (grown_trans HW.out HGA.out)).mono ?_
        rintro e w6 ⟨rfl, hg6⟩
        have HG6 := Lib.hid (grown_trans HGA.out hg6)
        clear hg6 XRL
        go_wp2_with fail
        refine (request_works _).mono ?_
        rintro e w7 ⟨rfl, hg7⟩
        have HG7 := Lib.hid (grown_trans HW.out (grown_trans HG6.out hg7))
        clear hg7
        go_wp2_with fail
        go_ret
        exact ⟨rfl, grown_below HG7.out⟩

end Go.Proofs.Ytomnhgcjdnhijaa
