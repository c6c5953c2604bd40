/-
  RequestBytes.
-/
import Derived.Test.YtomnhgcjdnhijaaReqBack
import Derived.Test.YtomnhgcjdnhijaaReqREnc
import Derived.Test.YtomnhgcjdnhijaaReqRDec
import Derived.Deep.RegionHeldLaw
namespace Go.Proofs.Ytomnhgcjdnhijaa
open Go.RowKit
set_option maxRecDepth 100000

theorem look_later {w : World} {g : Nat} {T : TypeId} {cs : List Value} (hb : Box w g T cs) : ∀ w', w.grownBy w' none → ∀ i, w'.cell? ⟨g, i, none⟩ = cs[i]? := fun _ hg => (hb.grown hg).look
set_option maxHeartbeats 6400000 in
theorem requestBytes_walk (r : ReqP) (a : Option Addr) (n c : Nat) (a' : Option Addr) (len cap : Nat) (l0 : List UInt8) (w : World) (hq : ReqB w r a n c) (ok : r.ok) (hb : InB w a' len cap l0) :
    Calls Try.prog 3 #[.agg #[.int .u8 (r.k.toNat : Int), .int .u32 (r.o : Int), .int .u8 (r.p.toNat : Int), .slice a n c, .int .u8 (r.s.toNat : Int), .int .u8 (r.f.toNat : Int), .int .u8 (r.t.toNat : Int), .int .i64 r.q], .slice a' len cap] w fun e w' => e = .returned (.bool true) ∧ Below w.heap.size w w' := by
  obtain ⟨k, hk, hk2, _, hmin⟩ := min_any len 200 (by decide)
  obtain ⟨hbl, hbr, hbc⟩ := hb.cut hk
  have h1 := hb.cap_le
  have hmx := hb.max
  generalize l0.take k = l at *
  have i0 : (0 : Int) ≤ (k : Int) := by omega
  have i1 : (k : Int) ≤ (len : Int) := by omega
  have i2 : (k : Int) ≤ (cap : Int) := by omega
  have hk2' : k ≤ 200 := by omega
  have HE := Lib.hid (fun u (hg : w.grownBy u none) => req_encode r a n c u (hq.grown hg) ok)
  have HP := Lib.hid (fun u (hg : w.grownBy u none) => ref_plainQ r.k.toNat r.o r.p.toNat a n c r.L r.s.toNat r.f.toNat r.t.toNat r.q u ⟨by omega, by have := r.k.toNat_lt; omega⟩ (hq.list.grown hg) hq.len hq.max)
  have HY := Lib.hid (fun hp u (hg : w.grownBy u none) => ref_reqBytes r a n c u (hq.grown hg) ok hp)
  have HD := Lib.hid (fun u (hg : w.grownBy u none) => req_decode a' k cap l u hbl (hbr.old (grown_below hg)) (by omega))
  have HRD := Lib.hid (fun u (hg : w.grownBy u none) => ref_reqDecode a' k cap l u hbl (by omega) (by omega) (hbr.old (grown_below hg)))
  obtain ⟨⟨M, ed⟩, hd⟩ : ∃ t, decR l = t := ⟨_, rfl⟩
  rw [hd] at HD HRD
  obtain ⟨⟨lb, eb⟩, hen⟩ : ∃ t, encR r = t := ⟨_, rfl⟩
  rw [hen] at HE
  have HEN := Lib.hid hen
  clear hen
  obtain ⟨pl, hpl⟩ : ∃ b, r.plain = b := ⟨_, rfl⟩
  have HPL := Lib.hid hpl
  have hpf : plainF r.k.toNat r.o r.p.toNat n r.s.toNat r.f.toNat r.t.toNat r.q = pl := by rw [← hpl, ← hq.len]; rfl
  rw [hpf] at HP
  have hW := World.grownBy_alloc w (.cells #[.int .u8 (r.k.toNat : Int), .int .u32 (r.o : Int), .int .u8 (r.p.toNat : Int), .slice a n c, .int .u8 (r.s.toNat : Int), .int .u8 (r.f.toNat : Int), .int .u8 (r.t.toNat : Int), .int .i64 r.q] 25) none
  have hX := Box.new w 25 [.int .u8 (r.k.toNat : Int), .int .u32 (r.o : Int), .int .u8 (r.p.toNat : Int), .slice a n c, .int .u8 (r.s.toNat : Int), .int .u8 (r.f.toNat : Int), .int .u8 (r.t.toNat : Int), .int .i64 r.q] w.heap.size rfl
  have XL := hX.look
  have hnm : n ≤ 9223372036854775807 := hq.max
  have HX := Lib.hid hX; have HW := Lib.hid hW
  clear hX hW hq ok hb hbl hbr hbc hk2 hmx hd h1 hpl hpf
  go_enter Try.func3, Try.ntmps3
  by_cases h20 : 20 < n
  · have h20' : (20 : Int) < (n : Int) := by omega
    go_wp2_with fail
    refine (request_works _).mono ?_
    rintro e w2 ⟨rfl, hg2⟩
    have HG2 := Lib.hid (grown_trans HW.out hg2)
    clear hg2
    go_wp2_with fail
    go_ret
    exact ⟨rfl, grown_below HG2.out⟩
  · have h20' : (n : Int) ≤ 20 := by omega
    go_wp2_with fail
    generalize w.alloc (.cells #[.int .u8 (r.k.toNat : Int), .int .u32 (r.o : Int), .int .u8 (r.p.toNat : Int), .slice a n c, .int .u8 (r.s.toNat : Int), .int .u8 (r.f.toNat : Int), .int .u8 (r.t.toNat : Int), .int .i64 r.q] 25) = w1 at *
    refine (HE.out _ HW.out).mono ?_
    rintro e w2 ⟨a2, n2, c2, rfl, hn2, hr2, hg2⟩
    have HN2 := Lib.hid hn2; have HR2 := Lib.hid hr2
    have HG2 := Lib.hid hg2
    have X2 := (HX.out.grown hg2).look
    clear hn2 hr2 hg2 XL
    go_wp2_with fail
    refine (HP.out _ (grown_trans HW.out HG2.out)).mono ?_
    rintro e w3 ⟨rfl, hg3⟩
    have HR3 := Lib.hid (HR2.out.old (grown_below hg3))
    have HG3 := Lib.hid (grown_trans HG2.out hg3)
    have HX3 := Lib.hid (HX.out.grown HG3.out)
    clear hg3 HG2 HR2 X2
    go_upto_if 28 with (fail)
    go_cut [] (fun wx => w1.grownBy wx none)
    case first =>
      cases pl
      · have he : (lb, eb) = ([], 1) := by rw [← HEN.out]; unfold encR; rw [HPL.out]; rfl
        obtain ⟨rfl, rfl⟩ : lb = [] ∧ eb = 1 := ⟨congrArg Prod.fst he, congrArg Prod.snd he⟩
        obtain rfl : n2 = 0 := HN2.out.symm
        clear he
        go_wp2_with fail
        go_meet
        exact HG3.out
      · have he : (lb, eb) = (reqB r, 0) := by rw [← HEN.out]; unfold encR; rw [HPL.out]; rfl
        obtain ⟨rfl, rfl⟩ : lb = reqB r ∧ eb = 0 := ⟨congrArg Prod.fst he, congrArg Prod.snd he⟩
        have hs := str_of (c := c2) HR3.out HN2.out
        have HYY := Lib.hid (HY.out HPL.out)
        clear he
        have X3 := look_later HX3.out
        have hS0 : w3.grownBy w3.drew none := grown_drew1 _
        have hS1 : w3.grownBy w3 none := World.grownBy.refl _ _
        go_wp2_with fail
        go_region_held_law (fun w' => w3.grownBy w' none) (with_reducible (first | assumption | exact keepA' (by assumption))) (first
          | (go_at_call 13; (with_reducible refine (HYY.out _ (growT (by assumption : w3.grownBy _ none) (grown_trans HW.out HG3.out))).mono ?_); rintro e w5 ⟨a5, n5, c5, rfl, hn5, ho5, hg5⟩; have hSa := growT hg5 (by with_reducible assumption); have hs5 := str_of (c := c5) (RB.of_own ho5) hn5; have hg55 := World.grownBy.refl w5 none; clear ho5 hn5))
        all_goals (
          go_wp2_with fail
          go_meet
          exact grown_trans HG3.out (by with_reducible assumption))
    case rest =>
      have HC := Lib.hid hcut
      have HC0 := Lib.hid (grown_trans HW.out hcut)
      clear hcut HR3 HN2 HG3 HX3
      go_wp2_with fail
      refine (HD.out _ HC0.out).mono ?_
      rintro e w5 ⟨a3, n3, c3, rfl, hB3, hg3⟩
      have hgA := grown_trans HC0.out (grown_trans hg3 (World.grownBy_alloc w5 (.cells #[.int .u8 (M.k.toNat : Int), .int .u32 (M.o : Int), .int .u8 (M.p.toNat : Int), .slice a3 n3 c3, .int .u8 (M.s.toNat : Int), .int .u8 (M.f.toNat : Int), .int .u8 (M.t.toNat : Int), .int .i64 M.q] 25) none))
      have HB3 := Lib.hid (hB3.grown (World.grownBy_alloc w5 (.cells #[.int .u8 (M.k.toNat : Int), .int .u32 (M.o : Int), .int .u8 (M.p.toNat : Int), .slice a3 n3 c3, .int .u8 (M.s.toNat : Int), .int .u8 (M.f.toNat : Int), .int .u8 (M.t.toNat : Int), .int .i64 M.q] 25) none))
      have XN := Box.new w5 25 [.int .u8 (M.k.toNat : Int), .int .u32 (M.o : Int), .int .u8 (M.p.toNat : Int), .slice a3 n3 c3, .int .u8 (M.s.toNat : Int), .int .u8 (M.f.toNat : Int), .int .u8 (M.t.toNat : Int), .int .i64 M.q] w5.heap.size rfl
      have HXN := Lib.hid XN; have HGA := Lib.hid hgA
      clear hB3 hg3 hgA XN
      go_wp2_with fail
      generalize w5.alloc (.cells #[.int .u8 (M.k.toNat : Int), .int .u32 (M.o : Int), .int .u8 (M.p.toNat : Int), .slice a3 n3 c3, .int .u8 (M.s.toNat : Int), .int .u8 (M.f.toNat : Int), .int .u8 (M.t.toNat : Int), .int .i64 M.q] 25) = w6 at *
      refine (HRD.out _ HGA.out).mono ?_
      rintro e w7 ⟨a4, n4, c4, rfl, hB4, hg4⟩
      have hgB := grown_trans HGA.out (grown_trans hg4 (World.grownBy_alloc w7 (.cells #[.int .u8 (M.k.toNat : Int), .int .u32 (M.o : Int), .int .u8 (M.p.toNat : Int), .slice a4 n4 c4, .int .u8 (M.s.toNat : Int), .int .u8 (M.f.toNat : Int), .int .u8 (M.t.toNat : Int), .int .i64 M.q] 25) none))
      have HS := Lib.hid (ref_sameQ M.k.toNat M.o M.p.toNat a3 n3 c3 M.L M.s.toNat M.f.toNat M.t.toNat M.q M.k.toNat M.o M.p.toNat a4 n4 c4 M.L M.s.toNat M.f.toNat M.t.toNat M.q (w7.alloc (.cells #[.int .u8 (M.k.toNat : Int), .int .u32 (M.o : Int), .int .u8 (M.p.toNat : Int), .slice a4 n4 c4, .int .u8 (M.s.toNat : Int), .int .u8 (M.f.toNat : Int), .int .u8 (M.t.toNat : Int), .int .i64 M.q] 25)) (HB3.out.list.grown (grown_trans hg4 (World.grownBy_alloc w7 (.cells #[.int .u8 (M.k.toNat : Int), .int .u32 (M.o : Int), .int .u8 (M.p.toNat : Int), .slice a4 n4 c4, .int .u8 (M.s.toNat : Int), .int .u8 (M.f.toNat : Int), .int .u8 (M.t.toNat : Int), .int .i64 M.q] 25) none))) HB3.out.len (hB4.list.grown (World.grownBy_alloc w7 (.cells #[.int .u8 (M.k.toNat : Int), .int .u32 (M.o : Int), .int .u8 (M.p.toNat : Int), .slice a4 n4 c4, .int .u8 (M.s.toNat : Int), .int .u8 (M.f.toNat : Int), .int .u8 (M.t.toNat : Int), .int .i64 M.q] 25) none)) hB4.len HB3.out.max)
      rw [sameQ_self] at HS
      have YN := Box.new w7 25 [.int .u8 (M.k.toNat : Int), .int .u32 (M.o : Int), .int .u8 (M.p.toNat : Int), .slice a4 n4 c4, .int .u8 (M.s.toNat : Int), .int .u8 (M.f.toNat : Int), .int .u8 (M.t.toNat : Int), .int .i64 M.q] w7.heap.size rfl
      have X7 := ((HXN.out.grown hg4).alloc (.cells #[.int .u8 (M.k.toNat : Int), .int .u32 (M.o : Int), .int .u8 (M.p.toNat : Int), .slice a4 n4 c4, .int .u8 (M.s.toNat : Int), .int .u8 (M.f.toNat : Int), .int .u8 (M.t.toNat : Int), .int .i64 M.q] 25)).look
      have Y7 := YN.look
      have HGB := Lib.hid hgB
      clear hB4 hg4 hgB YN
      go_wp2_with fail
      refine HS.out.mono ?_
      rintro e w8 ⟨rfl, hg8⟩
      have HG8 := Lib.hid (grown_trans HGB.out hg8)
      clear hg8 X7 Y7
      go_wp2_with fail
      refine (request_works _).mono ?_
      rintro e w9 ⟨rfl, hg9⟩
      have HG9 := Lib.hid (grown_trans HG8.out hg9)
      clear hg9
      go_wp2_with fail
      go_ret
      exact ⟨rfl, grown_below HG9.out⟩

end Go.Proofs.Ytomnhgcjdnhijaa
