/-
  RequestGood.
-/
import Derived.Test.YtomnhgcjdnhijaaReqGoodB
namespace Go.Proofs.Ytomnhgcjdnhijaa
open Go.RowKit Go.ChangeShapes Go.WideShapes Go.ChangeAt Go.Deep
set_option maxRecDepth 100000

theorem keepT {a b c : World} (k : b.grownBy c none) (h : a.grownBy b none) : a.grownBy c none := grown_trans h k
theorem u8b (x : UInt8) : 0 ≤ (x.toNat : Int) ∧ (x.toNat : Int) ≤ 255 := by have := UInt8.toNat_lt x; omega
set_option maxHeartbeats 12800000 in
theorem requestGood_walk (n0 n1 n2 n3 n4 n5 n6 n7 n8 n9 n10 n11 : Nat) (r : ReqP) (a : Option Addr) (n c : Nat) (h0 : n0 < 256) (h1 : n1 < 256) (h2 : n2 < 256) (h3 : n3 < 65536) (h4 : n4 < 256) (h5 : n5 < 256) (h6 : n6 < 256) (h7 : n7 < 256) (h8 : n8 < 256) (h9 : n9 < 256) (h10 : n10 < 65536) (h11 : n11 < 256) (w : World) (hq : ReqB w r a n c) :
    Calls Try.prog 9 #[.agg #[.int .u8 (n0 : Int), .int .u8 (n1 : Int), .int .u8 (n2 : Int), .int .u16 (n3 : Int), .int .u8 (n4 : Int), .int .u8 (n5 : Int), .int .u8 (n6 : Int), .int .u8 (n7 : Int), .int .u8 (n8 : Int), .int .u8 (n9 : Int), .int .u16 (n10 : Int), .int .u8 (n11 : Int)], .agg #[.int .u8 (r.k.toNat : Int), .int .u32 (r.o : Int), .int .u8 (r.p.toNat : Int), .slice a n c, .int .u8 (r.s.toNat : Int), .int .u8 (r.f.toNat : Int), .int .u8 (r.t.toNat : Int), .int .i64 r.q]] w fun e w' => e = .returned (.bool true) ∧ Below w.heap.size w w' := by
  obtain ⟨C, hC⟩ : ∃ C, smallC (smallQ n0 n1 n2 n3 n4 n5 n6 n7 n8 n9 n10 n11) (smallQ n0 n1 n2 n3 n4 n5 n6 n7 n8 n9 n10 n11).ca (smallNeed (smallQ n0 n1 n2 n3 n4 n5 n6 n7 n8 n9 n10 n11) : Nat) = C := ⟨_, rfl⟩
  have HP := Lib.hid (fun u => conf_config n0 n1 n2 n3 n4 n5 n6 n7 n8 n9 n10 n11 h0 h1 h2 h3 h4 h5 h6 h7 h8 h9 h10 h11 u)
  rw [hC] at HP
  clear hC
  have hg := two_boxesG w (.cells #[.int .u8 (n0 : Int), .int .u8 (n1 : Int), .int .u8 (n2 : Int), .int .u16 (n3 : Int), .int .u8 (n4 : Int), .int .u8 (n5 : Int), .int .u8 (n6 : Int), .int .u8 (n7 : Int), .int .u8 (n8 : Int), .int .u8 (n9 : Int), .int .u16 (n10 : Int), .int .u8 (n11 : Int)] 57) (.cells #[.int .u8 (r.k.toNat : Int), .int .u32 (r.o : Int), .int .u8 (r.p.toNat : Int), .slice a n c, .int .u8 (r.s.toNat : Int), .int .u8 (r.f.toNat : Int), .int .u8 (r.t.toNat : Int), .int .i64 r.q] 25)
  have hbS := (Box.new w 57 [.int .u8 (n0 : Int), .int .u8 (n1 : Int), .int .u8 (n2 : Int), .int .u16 (n3 : Int), .int .u8 (n4 : Int), .int .u8 (n5 : Int), .int .u8 (n6 : Int), .int .u8 (n7 : Int), .int .u8 (n8 : Int), .int .u8 (n9 : Int), .int .u16 (n10 : Int), .int .u8 (n11 : Int)] w.heap.size rfl).alloc (.cells #[.int .u8 (r.k.toNat : Int), .int .u32 (r.o : Int), .int .u8 (r.p.toNat : Int), .slice a n c, .int .u8 (r.s.toNat : Int), .int .u8 (r.f.toNat : Int), .int .u8 (r.t.toNat : Int), .int .i64 r.q] 25)
  have hbR := Box.new (w.alloc (.cells #[.int .u8 (n0 : Int), .int .u8 (n1 : Int), .int .u8 (n2 : Int), .int .u16 (n3 : Int), .int .u8 (n4 : Int), .int .u8 (n5 : Int), .int .u8 (n6 : Int), .int .u8 (n7 : Int), .int .u8 (n8 : Int), .int .u8 (n9 : Int), .int .u16 (n10 : Int), .int .u8 (n11 : Int)] 57)) 25 [.int .u8 (r.k.toNat : Int), .int .u32 (r.o : Int), .int .u8 (r.p.toNat : Int), .slice a n c, .int .u8 (r.s.toNat : Int), .int .u8 (r.f.toNat : Int), .int .u8 (r.t.toNat : Int), .int .i64 r.q] (w.heap.size + 1) (by simp)
  have l1 := hbS.look
  have l2 := hbR.look
  have HG := Lib.hid hg; have HBR := Lib.hid hbR
  have HQ := Lib.hid hq
  have hnn := hq.max
  have hn63 : n ≤ 9223372036854775807 := hnn
  clear hq hg hbS hbR hnn
  by_cases h20 : (20 : Int) < (n : Int)
  · go_enter Try.func9, Try.ntmps9
    go_wp2_with fail
    refine (request_works _).mono ?_
    rintro e w1 ⟨rfl, hg1⟩
    have HG1 := Lib.hid hg1
    clear hg1 l1 l2
    go_wp2_with fail
    go_ret
    exact ⟨rfl, grown_below (grown_trans HG.out HG1.out)⟩
  · go_enter Try.func9, Try.ntmps9
    go_wp2_with fail
    generalize (w.alloc (.cells #[.int .u8 (n0 : Int), .int .u8 (n1 : Int), .int .u8 (n2 : Int), .int .u16 (n3 : Int), .int .u8 (n4 : Int), .int .u8 (n5 : Int), .int .u8 (n6 : Int), .int .u8 (n7 : Int), .int .u8 (n8 : Int), .int .u8 (n9 : Int), .int .u16 (n10 : Int), .int .u8 (n11 : Int)] 57)).alloc (.cells #[.int .u8 (r.k.toNat : Int), .int .u32 (r.o : Int), .int .u8 (r.p.toNat : Int), .slice a n c, .int .u8 (r.s.toNat : Int), .int .u8 (r.f.toNat : Int), .int .u8 (r.t.toNat : Int), .int .i64 r.q] 25) = w1 at *
    refine (HP.out w1).mono ?_
    rintro e w2 ⟨ca, ck, rfl, hd, hg2⟩
    have HG2 := Lib.hid (grown_trans HG.out hg2)
    have HBR2 := Lib.hid (HBR.out.grown hg2)
    obtain ⟨cn, hcn⟩ : ∃ cn, C.D.length = cn := ⟨_, rfl⟩
    rw [hcn]
    have HA := Lib.hid (fun u (hu : w.grownBy u none) => req_good C ca cn ck (r.k.toNat : Int) (r.o : Int) (r.p.toNat : Int) a n c r.L (r.s.toNat : Int) (r.f.toNat : Int) (r.t.toNat : Int) r.q u (u8b _) (u8b _) (u8b _) (u8b _) (HQ.out.list.grown hu) HQ.out.len HQ.out.max)
    have HB := Lib.hid (fun u (hu : w.grownBy u none) => ref_goodQ C ca cn ck (r.k.toNat : Int) (r.o : Int) (r.p.toNat : Int) a n c r.L (r.s.toNat : Int) (r.f.toNat : Int) (r.t.toNat : Int) r.q u (u8b _) (u8b _) (u8b _) (u8b _) (HQ.out.list.grown hu) HQ.out.len HQ.out.max)
    have HPA := Lib.hid (fun u => req_plain (r.k.toNat : Int) (r.o : Int) (r.p.toNat : Int) a n c (r.s.toNat : Int) (r.f.toNat : Int) (r.t.toNat : Int) r.q u)
    have HPB := Lib.hid (fun u (hu : w.grownBy u none) => ref_plainQ (r.k.toNat : Int) (r.o : Int) (r.p.toNat : Int) a n c r.L (r.s.toNat : Int) (r.f.toNat : Int) (r.t.toNat : Int) r.q u (u8b _) (HQ.out.list.grown hu) HQ.out.len HQ.out.max)
    obtain ⟨pb, hpb⟩ : ∃ pb, plainF (r.k.toNat : Int) (r.o : Int) (r.p.toNat : Int) n (r.s.toNat : Int) (r.f.toNat : Int) (r.t.toNat : Int) r.q = pb := ⟨_, rfl⟩
    rw [hpb] at HA HB HPA HPB
    obtain ⟨gb, hgb⟩ : ∃ gb, goodG C.sk C.wa (r.k.toNat : Int) (r.o : Int) (r.p.toNat : Int) n pb (linesOk C.sk r.L) (r.s.toNat : Int) (r.f.toNat : Int) (r.t.toNat : Int) r.q = gb := ⟨_, rfl⟩
    rw [hgb] at HA HB
    have HGP := Lib.hid (fun h : gb = true => show pb = true by
      rw [← hgb] at h
      unfold goodG at h
      exact (Bool.and_eq_true_iff.1 h).1)
    obtain ⟨cs, hcs⟩ : ∃ cs : List Value, [.int .i64 C.sk, .int .i64 C.wa, .slice ca cn ck, .int .u8 ((C.p 0 0).toNat : Int), .int .u8 ((C.p 0 1).toNat : Int), .int .u8 ((C.p 0 2).toNat : Int), .int .u8 ((C.p 0 3).toNat : Int), .int .u8 ((C.p 1 0).toNat : Int), .int .u8 ((C.p 1 1).toNat : Int), .int .u8 ((C.p 1 2).toNat : Int), .int .u8 ((C.p 1 3).toNat : Int), .int .u8 ((C.p 2 0).toNat : Int), .int .u8 ((C.p 2 1).toNat : Int), .int .u8 ((C.p 2 2).toNat : Int), .int .u8 ((C.p 2 3).toNat : Int), .int .u8 ((C.p 3 0).toNat : Int), .int .u8 ((C.p 3 1).toNat : Int), .int .u8 ((C.p 3 2).toNat : Int), .int .u8 ((C.p 3 3).toNat : Int), .int .i64 C.sg, .int .i64 C.od, .int .i64 C.rt, .int .i64 C.se, .int .i64 C.ca, .int .i64 C.bl, .int .i64 C.bs] = cs := ⟨_, rfl⟩
    have hl : cs.length = 26 := by rw [← hcs]; rfl
    have h1 : cs.all (·.oneCell') = true := by rw [← hcs]; rfl
    rw [hcs] at HA HB ⊢
    have hst : (w2.alloc (.cells #[.int .i64 0, .int .i64 0, .slice none 0 0, .int .u8 0, .int .u8 0, .int .u8 0, .int .u8 0, .int .u8 0, .int .u8 0, .int .u8 0, .int .u8 0, .int .u8 0, .int .u8 0, .int .u8 0, .int .u8 0, .int .u8 0, .int .u8 0, .int .u8 0, .int .u8 0, .int .i64 0, .int .i64 0, .int .i64 0, .int .i64 0, .int .i64 0, .int .i64 0, .int .i64 0] 62)).setRow w2.heap.size cs.toArray = w2.alloc (.cells cs.toArray 62) := Go.World.setRow_alloc_new _ _ _ _
    have HST := Lib.hid (fun _ : True => hst); have HL := Lib.hid hl; have H1 := Lib.hid (fun _ : True => h1)
    have hbw := Box.new w2 62 cs _ rfl
    have HGW := Lib.hid (World.grownBy_alloc w2 (.cells cs.toArray 62) none)
    obtain ⟨w3, hw3⟩ : ∃ u, w2.alloc (.cells cs.toArray 62) = u := ⟨_, rfl⟩
    rw [hw3] at HST hbw HGW
    have HBW := Lib.hid hbw
    have XB := look_later (HBR2.out.grown HGW.out)
    have HGG := Lib.hid (grown_trans HG2.out HGW.out)
    clear hd hg2 hcs hl h1 hst hbw hw3 hcn hpb hgb l1 l2
    have hS0 : w3.grownBy w3.drew none := grown_drew1 _
    have hS1 : w3.grownBy w3 none := World.grownBy.refl _ _
    go_wp2_with (refine wpList_store_conf (o := ⟨none, .store 62 _ _, _, _, _, _⟩) rfl _ _ rfl w2.heap.size _ _ rfl rfl (Box.new w2 _ [.int .i64 0, .int .i64 0, .slice none 0 0, .int .u8 0, .int .u8 0, .int .u8 0, .int .u8 0, .int .u8 0, .int .u8 0, .int .u8 0, .int .u8 0, .int .u8 0, .int .u8 0, .int .u8 0, .int .u8 0, .int .u8 0, .int .u8 0, .int .u8 0, .int .u8 0, .int .i64 0, .int .i64 0, .int .i64 0, .int .i64 0, .int .i64 0, .int .i64 0, .int .i64 0] _ rfl) HL.out rfl (H1.out trivial) ?_; rw [HST.out trivial])
    obtain ⟨N, hN⟩ : ∃ N : Nat, N = 26 := ⟨_, rfl⟩
    have HLD := Lib.hid (fun u (hg : w3.grownBy u none) => load_row u w2.heap.size cs N (by rw [hN]; exact HL.out) (range_conf (HBW.out.grown hg)))
    have ld := HLD.out
    obtain ⟨T, hT⟩ : ∃ T : TypeId, T = 62 := ⟨_, rfl⟩
    have t1 : ∀ u, (isAgg T).run Try.prog u = .ok true u := fun u => by rw [hT]; exact Try.isAgg62 u
    have t2 : ∀ u, (sizeOf T).run Try.prog u = .ok N u := fun u => by rw [hT, hN]; exact Try.sizeOf62 u
    rw [show Op.load 62 (Operand.tmp 5) = Op.load T (Operand.tmp 5) from by rw [hT]]
    have HTT := Lib.hid hT; have HNN := Lib.hid hN
    clear hT hN
    cases gb
    · refine wp_region_held_drew (S := fun w' => w3.grownBy w' none) (by kernel_rfl) hS0 (fun hHeld => ?_)
      refine wpAnyH_take (i := 0) (v := ?v0) rfl (by kernel_rfl) (by kernel_rfl) (by kernel_rfl) (fun _ _ _ h => h) (Or.inl ⟨by rfl, ?h0⟩) (by assumption) ?r0
      case h0 => ((intro w hSw; (try dsimp only at hSw); go_simp); (try with_reducible rfl))
      skip
      refine wpAnyH_take (i := 2) (v := ?v2) rfl (by kernel_rfl) (by kernel_rfl) (by kernel_rfl) (fun _ _ _ h => h) (Or.inl ⟨by rfl, ?h2⟩) (by assumption) ?r2
      case h2 => ((intro w hSw; (try dsimp only at hSw); go_simp); (try with_reducible rfl))
      skip
      refine wpAnyH_ready (rs := [1]) (by kernel_rfl) (by simp) ?_
      refine AllReadyH.cons rfl (fun K hK => ?_) AllReadyH.nil
      go_simp
      go_at_call 27; (with_reducible refine (HPA.out _).mono ?_)
      rintro e wa1 ⟨rfl, hga⟩
      have hSa1 := keepT hga (by with_reducible assumption)
      refine hK.out _ _ hSa1 (fun hHeld => ?_)
      clear hK K hga
      skip
      refine wpAnyH_ready (rs := [3]) (by kernel_rfl) (by simp) ?_
      refine AllReadyH.cons rfl (fun K hK => ?_) AllReadyH.nil
      go_simp
      go_at_call 12; (with_reducible refine (HPB.out _ (keepT (by with_reducible assumption) HGG.out)).mono ?_)
      rintro e wa3 ⟨rfl, hga⟩
      have hSa3 := keepT hga (by with_reducible assumption)
      refine hK.out _ _ hSa3 (fun hHeld => ?_)
      clear hK K hga
      skip
      refine wpAnyH_take (i := 4) (v := ?v4) rfl (by kernel_rfl) (by kernel_rfl) (by kernel_rfl) (fun _ _ _ h => h) (Or.inl ⟨by rfl, ?h4⟩) (by assumption) ?r4
      case h4 => ((intro w hSw; (try dsimp only at hSw); go_simp); (try with_reducible rfl))
      skip
      refine wpAnyH_take (i := 5) (v := ?v5) rfl (by kernel_rfl) (by kernel_rfl) (by kernel_rfl) (fun _ _ _ h => h) (Or.inl ⟨by rfl, ?h5⟩) (by assumption) ?r5
      case h5 => ((intro w hSw; (try dsimp only at hSw); go_simp); (try with_reducible rfl))
      skip
      refine wpAnyH_take (i := 6) (v := ?v6) rfl (by kernel_rfl) (by kernel_rfl) (by kernel_rfl) (fun _ _ _ h => h) (Or.inl ⟨by rfl, ?h6⟩) (by assumption) ?r6
      case h6 => ((intro w hSw; (try dsimp only at hSw); go_simp); (try with_reducible rfl))
      skip
      refine wpAnyH_take (i := 7) (v := ?v7) rfl (by kernel_rfl) (by kernel_rfl) (by kernel_rfl) (fun _ _ _ h => h) (Or.inl ⟨by rfl, ?h7⟩) (by assumption) ?r7
      case h7 => ((intro w hSw; (try dsimp only at hSw); go_simp); (try with_reducible rfl))
      skip
      refine wpAnyH_take (i := 9) (v := ?v9) rfl (by kernel_rfl) (by kernel_rfl) (by kernel_rfl) (fun _ _ _ h => h) (Or.inl ⟨by rfl, ?h9⟩) (by assumption) ?r9
      case h9 => ((intro w hSw; (try dsimp only at hSw); go_simp); (try with_reducible rfl))
      skip
      refine wpAnyH_take (i := 10) (v := ?v10) rfl (by kernel_rfl) (by kernel_rfl) (by kernel_rfl) (fun _ _ _ h => h) (Or.inl ⟨by rfl, ?h10⟩) (by assumption) ?r10
      case h10 => ((intro w hSw; (try dsimp only at hSw); go_simp); (try with_reducible rfl))
      skip
      refine wpAnyH_ready (rs := [8]) (by kernel_rfl) (by simp) ?_
      refine AllReadyH.cons rfl (fun K hK => ?_) AllReadyH.nil
      go_simp
      go_at_call 31; (with_reducible refine (HA.out _ (keepT (by with_reducible assumption) HGG.out)).mono ?_)
      rintro e wa8 ⟨rfl, hga⟩
      have hSa8 := keepT hga (by with_reducible assumption)
      refine hK.out _ _ hSa8 (fun hHeld => ?_)
      clear hK K hga
      skip
      refine wpAnyH_ready (rs := [11]) (by kernel_rfl) (by simp) ?_
      refine AllReadyH.cons rfl (fun K hK => ?_) AllReadyH.nil
      go_simp
      go_at_call 32; (with_reducible refine (HB.out _ (keepT (by with_reducible assumption) HGG.out)).mono ?_)
      rintro e wa11 ⟨rfl, hga⟩
      have hSa11 := keepT hga (by with_reducible assumption)
      refine hK.out _ _ hSa11 (fun hHeld => ?_)
      clear hK K hga
      skip
      refine wpAnyH_take (i := 12) (v := ?v12) rfl (by kernel_rfl) (by kernel_rfl) (by kernel_rfl) (fun _ _ _ h => h) (Or.inl ⟨by rfl, ?h12⟩) (by assumption) ?r12
      case h12 => ((intro w hSw; (try dsimp only at hSw); go_simp); (try with_reducible rfl))
      skip
      refine wpAnyH_take (i := 13) (v := ?v13) rfl (by kernel_rfl) (by kernel_rfl) (by kernel_rfl) (fun _ _ _ h => h) (Or.inl ⟨by rfl, ?h13⟩) (by assumption) ?r13
      case h13 => ((intro w hSw; (try dsimp only at hSw); go_simp); (try with_reducible rfl))
      skip
      refine wpAnyH_take (i := 14) (v := ?v14) rfl (by kernel_rfl) (by kernel_rfl) (by kernel_rfl) (fun _ _ _ h => h) (Or.inl ⟨by rfl, ?h14⟩) (by assumption) ?r14
      case h14 => ((intro w hSw; (try dsimp only at hSw); go_simp); (try with_reducible rfl))
      skip
      refine wpAnyH_take (i := 15) (v := ?v15) rfl (by kernel_rfl) (by kernel_rfl) (by kernel_rfl) (fun _ _ _ h => h) (Or.inl ⟨by rfl, ?h15⟩) (by assumption) ?r15
      case h15 => ((intro w hSw; (try dsimp only at hSw); go_simp); (try with_reducible rfl))
      skip
      refine wpAnyH_take (i := 16) (v := ?v16) rfl (by kernel_rfl) (by kernel_rfl) (by kernel_rfl) (fun _ _ _ h => h) (Or.inl ⟨by rfl, ?h16⟩) (by assumption) ?r16
      case h16 => ((intro w hSw; (try dsimp only at hSw); go_simp); (try with_reducible rfl))
      skip
      refine wpAnyH_ready (rs := [17]) (by kernel_rfl) (by simp) ?_
      refine AllReadyH.cons rfl (fun K hK => ?_) AllReadyH.nil
      go_simp
      go_at_call 31; (with_reducible refine (HA.out _ (keepT (by with_reducible assumption) HGG.out)).mono ?_)
      rintro e wa17 ⟨rfl, hga⟩
      have hSa17 := keepT hga (by with_reducible assumption)
      refine hK.out _ _ hSa17 (fun hHeld => ?_)
      clear hK K hga
      skip
      refine wpAnyH_take (i := 18) (v := ?v18) rfl (by kernel_rfl) (by kernel_rfl) (by kernel_rfl) (fun _ _ _ h => h) (Or.inl ⟨by rfl, ?h18⟩) (by assumption) ?r18
      case h18 => ((intro w hSw; (try dsimp only at hSw); go_simp); (try with_reducible rfl))
      skip
      refine wpAnyH_take (i := 19) (v := ?v19) rfl (by kernel_rfl) (by kernel_rfl) (by kernel_rfl) (fun _ _ _ h => h) (Or.inl ⟨by rfl, ?h19⟩) (by assumption) ?r19
      case h19 => ((intro w hSw; (try dsimp only at hSw); go_simp); (try with_reducible rfl))
      skip
      refine wpAnyH_take (i := 20) (v := undef) rfl (by kernel_rfl) (by kernel_rfl) (by kernel_rfl) (fun _ _ _ h => h) (Or.inr ⟨by rfl, rfl⟩) (by assumption) ?_
      skip
      refine wpAnyH_take (i := 21) (v := undef) rfl (by kernel_rfl) (by kernel_rfl) (by kernel_rfl) (fun _ _ _ h => h) (Or.inr ⟨by rfl, rfl⟩) (by assumption) ?_
      skip
      refine wpAnyH_take (i := 22) (v := ?v22) rfl (by kernel_rfl) (by kernel_rfl) (by kernel_rfl) (fun _ _ _ h => h) (Or.inl ⟨by rfl, ?h22⟩) (by assumption) ?r22
      case h22 => ((intro w hSw; (try dsimp only at hSw); go_simp); (try with_reducible rfl))
      skip
      refine wpAnyH_take (i := 23) (v := ?v23) rfl (by kernel_rfl) (by kernel_rfl) (by kernel_rfl) (fun _ _ _ h => h) (Or.inl ⟨by rfl, ?h23⟩) (by assumption) ?r23
      case h23 => ((intro w hSw; (try dsimp only at hSw); go_simp); (try with_reducible rfl))
      skip
      refine wpAnyH_take (i := 24) (v := ?v24) rfl (by kernel_rfl) (by kernel_rfl) (by kernel_rfl) (fun _ _ _ h => h) (Or.inl ⟨by rfl, ?h24⟩) (by assumption) ?r24
      case h24 => ((intro w hSw; (try dsimp only at hSw); go_simp); (try with_reducible rfl))
      skip
      refine wpAnyH_ready (rs := [25]) (by kernel_rfl) (by simp) ?_
      refine AllReadyH.cons rfl (fun K hK => ?_) AllReadyH.nil
      go_simp
      go_at_call 10; (with_reducible refine (request_works _).mono ?_)
      rintro e wa25 ⟨rfl, hga⟩
      have hSa25 := keepT hga (by with_reducible assumption)
      refine hK.out _ _ hSa25 (fun hHeld => ?_)
      clear hK K hga
      skip
      refine wpAnyH_take (i := 26) (v := ?v26) rfl (by kernel_rfl) (by kernel_rfl) (by kernel_rfl) (fun _ _ _ h => h) (Or.inl ⟨by rfl, ?h26⟩) (by assumption) ?r26
      case h26 => ((intro w hSw; (try dsimp only at hSw); go_simp); (try with_reducible rfl))
      skip
      refine wpAnyH_take (i := 27) (v := ?v27) rfl (by kernel_rfl) (by kernel_rfl) (by kernel_rfl) (fun _ _ _ h => h) (Or.inl ⟨by rfl, ?h27⟩) (by assumption) ?r27
      case h27 => ((intro w hSw; (try dsimp only at hSw); go_simp); (try with_reducible rfl))
      skip
      refine wpAnyH_done (by kernel_rfl) ?_ _
      skip
      have HG7 := Lib.hid (grown_trans HGG.out hSa25)
      clear XB ld t1 t2 hS0 hS1
      go_wp2_with fail
      go_ret
      refine ⟨?_, grown_below HG7.out⟩
      first | rfl | (go_simp; done) | (simp; done)
    · obtain rfl := HGP.out rfl
      go_region_held_law (fun w' => w3.grownBy w' none) (with_reducible (first | assumption | exact keepA' (by assumption))) (first
        | (go_at_call 27; (with_reducible refine (HPA.out _).mono ?_); rintro e wa ⟨rfl, hga⟩; have hSa := keepT hga (by with_reducible assumption))
        | (go_at_call 12; (with_reducible refine (HPB.out _ (keepT (by with_reducible assumption) HGG.out)).mono ?_); rintro e wa ⟨rfl, hga⟩; have hSa := keepT hga (by with_reducible assumption))
        | (go_at_call 31; (with_reducible refine (HA.out _ (keepT (by with_reducible assumption) HGG.out)).mono ?_); rintro e wa ⟨rfl, hga⟩; have hSa := keepT hga (by with_reducible assumption))
        | (go_at_call 32; (with_reducible refine (HB.out _ (keepT (by with_reducible assumption) HGG.out)).mono ?_); rintro e wa ⟨rfl, hga⟩; have hSa := keepT hga (by with_reducible assumption))
        | (go_at_call 10; (with_reducible refine (request_works _).mono ?_); rintro e wa ⟨rfl, hga⟩; have hSa := keepT hga (by with_reducible assumption)))
      all_goals (
        have HG7 := Lib.hid (grown_trans HGG.out (by with_reducible assumption))
        clear XB ld t1 t2 hS0 hS1
        go_wp2_with fail
        go_ret
        exact ⟨rfl, grown_below HG7.out⟩)

end Go.Proofs.Ytomnhgcjdnhijaa
