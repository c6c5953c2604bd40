/-
  What a configuration says of a key, by the document.
-/
import Derived.Test.YtfmcbnoldcfcbaaCDecl
namespace Go.Proofs.Ytfmcbnoldcfcbaa
open Go.RowKit
set_option maxRecDepth 100000

set_option maxHeartbeats 12800000 in
theorem ref_decl (c : ConfP) (a : Option Addr) (n cp : Nat) (k : KeyP) (w : World) (hL : DeclList w a c.D) (hn : c.D.length = n) (hm : n ≤ maxLen) :
    Calls Try.prog 42 #[.agg #[.int .i64 c.sk, .int .i64 c.wa, .slice a n cp, .int .u8 ((c.p 0 0).toNat : Int), .int .u8 ((c.p 0 1).toNat : Int), .int .u8 ((c.p 0 2).toNat : Int), .int .u8 ((c.p 0 3).toNat : Int), .int .u8 ((c.p 1 0).toNat : Int), .int .u8 ((c.p 1 1).toNat : Int), .int .u8 ((c.p 1 2).toNat : Int), .int .u8 ((c.p 1 3).toNat : Int), .int .u8 ((c.p 2 0).toNat : Int), .int .u8 ((c.p 2 1).toNat : Int), .int .u8 ((c.p 2 2).toNat : Int), .int .u8 ((c.p 2 3).toNat : Int), .int .u8 ((c.p 3 0).toNat : Int), .int .u8 ((c.p 3 1).toNat : Int), .int .u8 ((c.p 3 2).toNat : Int), .int .u8 ((c.p 3 3).toNat : Int), .int .i64 c.sg, .int .i64 c.od, .int .i64 c.rt, .int .i64 c.se, .int .i64 c.ca, .int .i64 c.bl, .int .i64 c.bs], .agg #[.int .u8 (k.1.toNat : Int), .int .u8 (k.2.1.toNat : Int), .int .u8 (k.2.2.toNat : Int)]] w (DeclPost w (declF c.D k)) := by
  have hmx : n ≤ 9223372036854775807 := hm
  obtain ⟨L, hLD⟩ : ∃ L, c.D = L := ⟨_, rfl⟩
  rw [hLD] at hL hn ⊢
  have HL := Lib.hid hL; have HN := Lib.hid hn
  have hg1 := World.grownBy_alloc w (.cells #[.int .i64 c.sk, .int .i64 c.wa, .slice a n cp, .int .u8 ((c.p 0 0).toNat : Int), .int .u8 ((c.p 0 1).toNat : Int), .int .u8 ((c.p 0 2).toNat : Int), .int .u8 ((c.p 0 3).toNat : Int), .int .u8 ((c.p 1 0).toNat : Int), .int .u8 ((c.p 1 1).toNat : Int), .int .u8 ((c.p 1 2).toNat : Int), .int .u8 ((c.p 1 3).toNat : Int), .int .u8 ((c.p 2 0).toNat : Int), .int .u8 ((c.p 2 1).toNat : Int), .int .u8 ((c.p 2 2).toNat : Int), .int .u8 ((c.p 2 3).toNat : Int), .int .u8 ((c.p 3 0).toNat : Int), .int .u8 ((c.p 3 1).toNat : Int), .int .u8 ((c.p 3 2).toNat : Int), .int .u8 ((c.p 3 3).toNat : Int), .int .i64 c.sg, .int .i64 c.od, .int .i64 c.rt, .int .i64 c.se, .int .i64 c.ca, .int .i64 c.bl, .int .i64 c.bs] 49) none
  obtain ⟨w1, hw1⟩ : ∃ u, w.alloc (.cells #[.int .i64 c.sk, .int .i64 c.wa, .slice a n cp, .int .u8 ((c.p 0 0).toNat : Int), .int .u8 ((c.p 0 1).toNat : Int), .int .u8 ((c.p 0 2).toNat : Int), .int .u8 ((c.p 0 3).toNat : Int), .int .u8 ((c.p 1 0).toNat : Int), .int .u8 ((c.p 1 1).toNat : Int), .int .u8 ((c.p 1 2).toNat : Int), .int .u8 ((c.p 1 3).toNat : Int), .int .u8 ((c.p 2 0).toNat : Int), .int .u8 ((c.p 2 1).toNat : Int), .int .u8 ((c.p 2 2).toNat : Int), .int .u8 ((c.p 2 3).toNat : Int), .int .u8 ((c.p 3 0).toNat : Int), .int .u8 ((c.p 3 1).toNat : Int), .int .u8 ((c.p 3 2).toNat : Int), .int .u8 ((c.p 3 3).toNat : Int), .int .i64 c.sg, .int .i64 c.od, .int .i64 c.rt, .int .i64 c.se, .int .i64 c.ca, .int .i64 c.bl, .int .i64 c.bs] 49) = u := ⟨_, rfl⟩
  have hs1 : w1.heap.size = w.heap.size + 1 := by rw [← hw1]; simp
  have HLO := Lib.hid (show w.heap.size ≤ w1.heap.size + 1 by omega)
  rw [hw1] at hg1
  have hbk := (Box.new w1 66 [.int .u8 (k.1.toNat : Int), .int .u8 (k.2.1.toNat : Int), .int .u8 (k.2.2.toNat : Int)] w1.heap.size rfl).alloc (.cells #[.int .u8 0, .int .u8 0, .int .u8 0, .int .i64 0, .int .i64 0, .int .i64 0] 68)
  have hbr := Box.new (w1.alloc (.cells #[.int .u8 (k.1.toNat : Int), .int .u8 (k.2.1.toNat : Int), .int .u8 (k.2.2.toNat : Int)] 66)) 68 [.int .u8 0, .int .u8 0, .int .u8 0, .int .i64 0, .int .i64 0, .int .i64 0] (w1.heap.size + 1) (by simp)
  have hgw := growA _ (.cells #[.int .u8 0, .int .u8 0, .int .u8 0, .int .i64 0, .int .i64 0, .int .i64 0] 68) (growA _ (.cells #[.int .u8 (k.1.toNat : Int), .int .u8 (k.2.1.toNat : Int), .int .u8 (k.2.2.toNat : Int)] 66) hg1)
  have HBK := Lib.hid hbk; have HBR := Lib.hid hbr; have HGW := Lib.hid hgw
  have HWW := Lib.hid hw1
  have XC := (Box.new w 49 [.int .i64 c.sk, .int .i64 c.wa, .slice a n cp, .int .u8 ((c.p 0 0).toNat : Int), .int .u8 ((c.p 0 1).toNat : Int), .int .u8 ((c.p 0 2).toNat : Int), .int .u8 ((c.p 0 3).toNat : Int), .int .u8 ((c.p 1 0).toNat : Int), .int .u8 ((c.p 1 1).toNat : Int), .int .u8 ((c.p 1 2).toNat : Int), .int .u8 ((c.p 1 3).toNat : Int), .int .u8 ((c.p 2 0).toNat : Int), .int .u8 ((c.p 2 1).toNat : Int), .int .u8 ((c.p 2 2).toNat : Int), .int .u8 ((c.p 2 3).toNat : Int), .int .u8 ((c.p 3 0).toNat : Int), .int .u8 ((c.p 3 1).toNat : Int), .int .u8 ((c.p 3 2).toNat : Int), .int .u8 ((c.p 3 3).toNat : Int), .int .i64 c.sg, .int .i64 c.od, .int .i64 c.rt, .int .i64 c.se, .int .i64 c.ca, .int .i64 c.bl, .int .i64 c.bs] w.heap.size rfl)
  rw [hw1] at XC
  have XCL := look_later ((XC.alloc (.cells #[.int .u8 (k.1.toNat : Int), .int .u8 (k.2.1.toNat : Int), .int .u8 (k.2.2.toNat : Int)] 66)).alloc (.cells #[.int .u8 0, .int .u8 0, .int .u8 0, .int .i64 0, .int .i64 0, .int .i64 0] 68))
  clear hL hn hm hLD hg1 hbk hbr hgw XC hs1
  go_enter Try.func42, Try.ntmps42
  go_wp2_with fail
  generalize (w1.alloc (.cells #[.int .u8 (k.1.toNat : Int), .int .u8 (k.2.1.toNat : Int), .int .u8 (k.2.2.toNat : Int)] 66)).alloc (.cells #[.int .u8 0, .int .u8 0, .int .u8 0, .int .i64 0, .int .i64 0, .int .i64 0] 68) = w2 at *
  generalize w1.heap.size = gk at *
  have SI := set_idx
  have SF := set_far
  go_loopw [6] (fun i wr => DeclRel w2 L k n i wr) (fun i _ => n - (intOf i).toNat)
  case atStart => exact ⟨0, Nat.zero_le _, rfl, by simp, World.grownBy.refl _ _⟩
  case round =>
    obtain ⟨j, hj, rfl, hno, hg⟩ := hrel
    have HNO := Lib.hid hno; have HG := Lib.hid hg
    have HBR2 := Lib.hid (HBR.out.grown hg); have HBK2 := Lib.hid (HBK.out.grown hg)
    have XC2 := fun w' (h : wr.grownBy w' none) => XCL w' (growT h hg)
    have hS0 : wr.grownBy wr.drew none := grown_drew1 _
    have hS1 : wr.grownBy wr none := World.grownBy.refl _ _
    clear hno hg XCL
    by_cases hlt : j < n
    · have hjl : j < L.length := by rw [HN.out]; exact hlt
      obtain ⟨y, he⟩ : ∃ e, L[j]'hjl = e := ⟨_, rfl⟩
      obtain ⟨b, o, rfl, d0, d1, d2, d3, d4, d5⟩ := (HL.out j hjl).grown (grown_trans HGW.out HG.out)
      rw [he] at d0 d1 d2 d3 d4 d5
      have HE := Lib.hid he
      have i0 : (0 : Int) ≤ (j : Int) := by omega
      have i1 : (j : Int) < (n : Int) := by omega
      have d0 := cell_later d0
      have d1 := cell_later d1
      have d2 := cell_later d2
      have d3 := cell_later d3
      have d4 := cell_later d4
      have d5 := cell_later d5
      have XK := look_later HBK2.out
      clear he
      by_cases hk : y.k = k
      · have HF := Lib.hid (declF_hit hjl (by rw [HE.out]; exact hk) HNO.out)
        have q0 : ((y.k.1.toNat : Int) == (k.1.toNat : Int)) = true := by rw [hk]; simp
        have q1 : ((y.k.2.1.toNat : Int) == (k.2.1.toNat : Int)) = true := by rw [hk]; simp
        have q2 : ((y.k.2.2.toNat : Int) == (k.2.2.toNat : Int)) = true := by rw [hk]; simp
        subst hk
        clear q0 q1 q2
        go_wp2_with fail
        go_region_held_law (fun w' => wr.grownBy w' none) (with_reducible (first | assumption | exact keepA' (by assumption))) (fail)
        have hbr := HBR2.out.drew
        have XR := hbr.look
        have XO := hbr.open
        have XR0 := HBR2.out.look
        have XO0 := HBR2.out.open
        have HGA := Lib.hid (grown_trans HGW.out (grown_trans HG.out (grown_drew1 wr)))
        clear hbr
        go_wp2_with fail
        refine bodyPost_ret (v := .tuple #[.agg #[.int .u8 (y.k.1.toNat : Int), .int .u8 (y.k.2.1.toNat : Int), .int .u8 (y.k.2.2.toNat : Int), .int .i64 y.lo, .int .i64 y.ini, .int .i64 y.hi], .bool true]) ?_ rfl ?_
        · simp only [results]
          go_simp
        · rw [HF.out, HE.out]
          have hs6 := fun W => grow6 W (gk + 1) (.int .u8 (y.k.1.toNat : Int)) (.int .u8 (y.k.2.1.toNat : Int)) (.int .u8 (y.k.2.2.toNat : Int)) (.int .i64 y.lo) (.int .i64 y.ini) (.int .i64 y.hi)
          exact ⟨rfl, grown_drew (grown_new (grown_trans HGW.out HG.out) HLO.out (hs6 _))⟩
      · have HK := Lib.hid hk
        have hf := key_ne hk
        clear hk
        rcases hf with hf | ⟨hf, hf2⟩ | ⟨hf, hf2, hf3⟩
        all_goals (
          go_wp2_with fail
          go_region_held_law (fun w' => wr.grownBy w' none) (with_reducible (first | assumption | exact keepA' (by assumption))) (fail)
          go_wp2_with fail
          go_roundw
          all_goals first
            | (exact ⟨j + 1, by omega, by go_num, take_snoc_all (p := fun d => d.k ≠ k) hjl (by rw [HE.out]; exact HK.out) HNO.out, grown_trans HG.out (by with_reducible assumption)⟩)
            | (simp [intOf]; omega))
    · obtain rfl : j = n := by omega
      have hno := HNO.out
      rw [List.take_of_length_le (by rw [HN.out]; exact Nat.le_refl _)] at hno
      have HF := Lib.hid (declF_none hno)
      have XR := HBR2.out.look
      have XO := HBR2.out.open
      clear hno
      go_wp2_with fail
      refine bodyPost_ret (v := .tuple #[.agg #[.int .u8 0, .int .u8 0, .int .u8 0, .int .i64 0, .int .i64 0, .int .i64 0], .bool false]) ?_ rfl ?_
      · simp only [results]
        go_simp
      · rw [HF.out]
        have hs6 := fun W => grow6 W (gk + 1) (.int .u8 0) (.int .u8 0) (.int .u8 0) (.int .i64 0) (.int .i64 0) (.int .i64 0)
        exact ⟨rfl, grown_new (grown_trans HGW.out HG.out) HLO.out (hs6 _)⟩

end Go.Proofs.Ytfmcbnoldcfcbaa
