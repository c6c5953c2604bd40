/-
  ConfDecl.
-/
import Derived.Test.YtfmcbnoldcfcbaaCWorks
import Derived.Test.YtfmcbnoldcfcbaaCArgs
namespace Go.Proofs.Ytfmcbnoldcfcbaa
open Go.RowKit
set_option maxRecDepth 100000

theorem info_u8c : (Try.prog.info? 5).map (fun i => (i.zero, i.size, i.bytes)) = some (some (.int .u8 0), 1, 1) := by kernel_rfl
set_option maxHeartbeats 12800000 in
theorem confDecl_walk (c : ConfP) (a : Option Addr) (cp : Nat) (k : KeyP) (w : World) (hm : c.D.length ≤ maxLen) (hL : DeclList w a c.D) :
    Calls Try.prog 11 #[.agg #[.int .i64 c.sk, .int .i64 c.wa, .slice a c.D.length cp, .int .u8 ((c.p 0 0).toNat : Int), .int .u8 ((c.p 0 1).toNat : Int), .int .u8 ((c.p 0 2).toNat : Int), .int .u8 ((c.p 0 3).toNat : Int), .int .u8 ((c.p 1 0).toNat : Int), .int .u8 ((c.p 1 1).toNat : Int), .int .u8 ((c.p 1 2).toNat : Int), .int .u8 ((c.p 1 3).toNat : Int), .int .u8 ((c.p 2 0).toNat : Int), .int .u8 ((c.p 2 1).toNat : Int), .int .u8 ((c.p 2 2).toNat : Int), .int .u8 ((c.p 2 3).toNat : Int), .int .u8 ((c.p 3 0).toNat : Int), .int .u8 ((c.p 3 1).toNat : Int), .int .u8 ((c.p 3 2).toNat : Int), .int .u8 ((c.p 3 3).toNat : Int), .int .i64 c.sg, .int .i64 c.od, .int .i64 c.rt, .int .i64 c.se, .int .i64 c.ca, .int .i64 c.bl, .int .i64 c.bs], .agg #[.int .u8 (k.1.toNat : Int), .int .u8 (k.2.1.toNat : Int), .int .u8 (k.2.2.toNat : Int)]] w fun e w' => e = .returned (.bool true) ∧ Below w.heap.size w w' := by
  obtain ⟨n, hn⟩ : ∃ n, c.D.length = n := ⟨_, rfl⟩
  rw [hn] at hm ⊢
  have H1 := Lib.hid (fun u (hg : w.grownBy u none) => conf_decl c a n cp k u (hL.grown hg) hn hm)
  have H2 := Lib.hid (fun u (hg : w.grownBy u none) => ref_decl c a n cp k u (hL.grown hg) hn hm)
  have H3 := Lib.hid (fun u => conf_works u)
  have hmx : n ≤ 9223372036854775807 := hm
  obtain ⟨cs, hcs⟩ : ∃ cs : List Value, [.int .i64 c.sk, .int .i64 c.wa, .slice a n cp, .int .u8 ((c.p 0 0).toNat : Int), .int .u8 ((c.p 0 1).toNat : Int), .int .u8 ((c.p 0 2).toNat : Int), .int .u8 ((c.p 0 3).toNat : Int), .int .u8 ((c.p 1 0).toNat : Int), .int .u8 ((c.p 1 1).toNat : Int), .int .u8 ((c.p 1 2).toNat : Int), .int .u8 ((c.p 1 3).toNat : Int), .int .u8 ((c.p 2 0).toNat : Int), .int .u8 ((c.p 2 1).toNat : Int), .int .u8 ((c.p 2 2).toNat : Int), .int .u8 ((c.p 2 3).toNat : Int), .int .u8 ((c.p 3 0).toNat : Int), .int .u8 ((c.p 3 1).toNat : Int), .int .u8 ((c.p 3 2).toNat : Int), .int .u8 ((c.p 3 3).toNat : Int), .int .i64 c.sg, .int .i64 c.od, .int .i64 c.rt, .int .i64 c.se, .int .i64 c.ca, .int .i64 c.bl, .int .i64 c.bs] = cs := ⟨_, rfl⟩
  have HL := Lib.hid (show cs.length = 26 by rw [← hcs]; rfl)
  have h2 : cs[2]? = some (.slice a n cp) := by rw [← hcs]; rfl
  rw [hcs] at H1 H2 ⊢
  clear hcs hn hL hm
  obtain ⟨k1, hk1⟩ : ∃ z : Nat, k.1.toNat = z := ⟨_, rfl⟩
  obtain ⟨k2, hk2⟩ : ∃ z : Nat, k.2.1.toNat = z := ⟨_, rfl⟩
  obtain ⟨k3, hk3⟩ : ∃ z : Nat, k.2.2.toNat = z := ⟨_, rfl⟩
  rw [hk1, hk2, hk3] at H1 H2 ⊢
  obtain ⟨t, ht⟩ : ∃ t, declF c.D k = t := ⟨_, rfl⟩
  rw [ht] at H1 H2
  clear ht hk1 hk2 hk3
  obtain ⟨d1, hd1⟩ : ∃ z : Nat, t.1.k.1.toNat = z := ⟨_, rfl⟩
  obtain ⟨d2, hd2⟩ : ∃ z : Nat, t.1.k.2.1.toNat = z := ⟨_, rfl⟩
  obtain ⟨d3, hd3⟩ : ∃ z : Nat, t.1.k.2.2.toNat = z := ⟨_, rfl⟩
  unfold DeclPost at H1 H2
  rw [hd1, hd2, hd3] at H1 H2
  generalize t.1.lo = d4 at *
  generalize t.1.ini = d5 at *
  generalize t.1.hi = d6 at *
  generalize t.2 = d7 at *
  clear hd1 hd2 hd3
  have hb1 := (Box.new w 49 cs w.heap.size rfl).alloc (.cells #[.int .u8 (k1 : Int), .int .u8 (k2 : Int), .int .u8 (k3 : Int)] 66)
  have hk1 := Box.new (w.alloc (.cells cs.toArray 49)) 66 [.int .u8 (k1 : Int), .int .u8 (k2 : Int), .int .u8 (k3 : Int)] (w.heap.size + 1) (by simp)
  obtain ⟨w1, hw1⟩ : ∃ u, (w.alloc (.cells cs.toArray 49)).alloc (.cells #[.int .u8 (k1 : Int), .int .u8 (k2 : Int), .int .u8 (k3 : Int)] 66) = u := ⟨_, rfl⟩
  have hg1 : w.grownBy w1 none := by rw [← hw1]; exact growA _ _ (World.grownBy_alloc _ _ _)
  rw [hw1] at hb1 hk1
  have HB1 := Lib.hid (fun u (h : w1.grownBy u none) => hb1.grown h); have HG1 := Lib.hid (fun u (h : w1.grownBy u none) => grown_trans hg1 h); have HW1 := Lib.hid (fun _ : True => hw1)
  have X2 : ∀ u, w1.grownBy u none → u.cell? ⟨w.heap.size, 2, none⟩ = some (.slice a n cp) := fun u h => (hb1.grown h).cell 2 h2
  have XK := look_later hk1
  have hr1 : w1.grownBy w1 none := World.grownBy.refl _ _
  clear hb1 hg1 hw1 h2 hk1
  go_enter Try.func11, Try.ntmps11
  by_cases h100 : n > 100
  · have j1 : (n : Int) > 100 := by omega
    have cc : ((w.alloc (.cells cs.toArray 49)).alloc (.cells #[.int .u8 (k1 : Int), .int .u8 (k2 : Int), .int .u8 (k3 : Int)] 66)).cell? ⟨w.heap.size, 2, none⟩ = some (.slice a n cp) := by rw [HW1.out trivial]; exact X2 _ hr1
    go_wp2_with fail
    refine (H3.out _).mono ?_
    rintro r w2 ⟨rfl, hg2⟩
    rw [HW1.out trivial] at hg2
    have HG2 := Lib.hid (HG1.out _ hg2)
    clear hg2 cc
    go_wp2_with fail
    go_ret
    exact ⟨rfl, grown_below HG2.out⟩
  · have j1 : ¬ (n : Int) > 100 := by omega
    have cc : ((w.alloc (.cells cs.toArray 49)).alloc (.cells #[.int .u8 (k1 : Int), .int .u8 (k2 : Int), .int .u8 (k3 : Int)] 66)).cell? ⟨w.heap.size, 2, none⟩ = some (.slice a n cp) := by rw [HW1.out trivial]; exact X2 _ hr1
    have gA : ∀ u o, w1.grownBy u none → w1.grownBy (u.alloc o) none := fun u o h => growA _ _ h
    have H1 := Lib.hid (fun u (h : w1.grownBy u none) => H1.out u (HG1.out u h))
    have H2 := Lib.hid (fun u (h : w1.grownBy u none) => H2.out u (HG1.out u h))
    go_wp2_with (first
      | (refine wpList_load_conf (o := ⟨some 15, _, _, _, _, _⟩) rfl _ rfl w.heap.size _ rfl (by rw [HW1.out trivial]; exact HB1.out _ hr1) HL.out ?_; rw [HW1.out trivial])
      | (refine wpList_load_conf (o := ⟨some 21, _, _, _, _, _⟩) rfl _ rfl w.heap.size _ rfl (HB1.out _ (growA _ _ (by with_reducible assumption))) HL.out ?_)
      | (go_at_call 41; (with_reducible refine (H1.out _ (by with_reducible assumption)).mono ?_); rintro r w2 ⟨rfl, hg2⟩; have hk2 := growT hg2 (by with_reducible assumption : w1.grownBy _ none))
      | (go_at_call 42; (with_reducible refine (H2.out _ (growA _ _ (by with_reducible assumption))).mono ?_); rintro r w3 ⟨rfl, hg3⟩; have XD := fun o => (((Box.new w2 68 [.int .u8 (d1 : Int), .int .u8 (d2 : Int), .int .u8 (d3 : Int), .int .i64 d4, .int .i64 d5, .int .i64 d6] _ rfl).grown hg3).alloc o).look; have hk3 := growT hg3 (growA _ _ (by with_reducible assumption) : w1.grownBy _ none))
      | (go_at_call 26; (with_reducible refine (H3.out _).mono ?_); rintro r w4 ⟨rfl, hg4⟩; have hk4 := growT hg4 (growA _ _ (by with_reducible assumption) : w1.grownBy _ none)))
    go_ret
    exact ⟨rfl, grown_below (HG1.out _ (by with_reducible assumption))⟩

end Go.Proofs.Ytfmcbnoldcfcbaa
