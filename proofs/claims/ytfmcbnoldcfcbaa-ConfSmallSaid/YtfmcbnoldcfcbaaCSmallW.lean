/-
  ConfSmall.
-/
import Derived.Test.YtfmcbnoldcfcbaaCConfig
import Derived.Test.YtfmcbnoldcfcbaaCArgs
namespace Go.Proofs.Ytfmcbnoldcfcbaa
open Go.RowKit Go.ChangeShapes Go.WideShapes Go.ChangeAt Go.Deep
set_option maxRecDepth 100000

theorem step_load_conf {ops : Array Oper} {o : Oper} {a : Act} {w : World} {K : Act → World → Prop} {Q : Exit → Act → World → Prop} {E : Prop} (hgd : o.guard = none) (x : Operand) (ho : o.op = .load 49 x)
    (g : Nat) (cs : List Value) (hx : a.eval x = .pointer (some ⟨g, 0, none⟩)) (hb : Box w g 49 cs) (hl : cs.length = 26)
    (h : K (a.put o.dst (.agg cs.toArray)) w) : if Region.wanted o (yielded ops a.tmps) = true then Oper.wp Try.prog o a w K Q else E := by
  have hw : Region.wanted o (yielded ops a.tmps) = true := by simp [Region.wanted, hgd]
  rw [if_pos hw]
  exact wp_load_mid _ x ho g 0 hx cs _ (range_conf hb) Try.underlying49 rfl (by rw [hl]; exact info_conf) h
theorem step_store_conf {ops : Array Oper} {o : Oper} {a : Act} {w : World} {K : Act → World → Prop} {Q : Exit → Act → World → Prop} {E : Prop} (hgd : o.guard = none) (x y : Operand) (ho : o.op = .store 49 x y)
    (g : Nat) (cs cs0 : List Value) (hx : a.eval x = .pointer (some ⟨g, 0, none⟩)) (hy : a.eval y = .agg cs.toArray) (hb : Box w g 49 cs0) (hl : cs.length = 26) (hl0 : cs0.length = 26) (h1 : cs.all (·.oneCell') = true)
    (h : K (a.put o.dst undef) (w.setRow g cs.toArray)) : if Region.wanted o (yielded ops a.tmps) = true then Oper.wp Try.prog o a w K Q else E := by
  have hw : Region.wanted o (yielded ops a.tmps) = true := by simp [Region.wanted, hgd]
  rw [if_pos hw]
  exact wp_store_row _ x y ho g cs.toArray hx hy _ cs0.toArray hb (by rw [List.size_toArray, hl]; exact info_conf) (by simp [hl, hl0]) (one_of h1) h
theorem small_check (q : SmallQ) (hq : q.bl ≤ 600) (ca bs e : Int) (he : checkF (smallC q ca bs) = e) (a : Option Addr) (n k : Nat) (D : List DeclP) (hD : (keysF (q.s : Int) (q.v : Int)).map (mkS q.L q.I q.H) = D) (hn : D.length = n) (hm : n ≤ maxLen) (u : World) (hd : DeclList u a D) :
    Calls Try.prog 27 #[.agg (GC q.s q.v a n k (turnF q.s q.v q.t q.s 0) q.sg q.od q.rt q.se ca q.bl bs).toArray] u fun r w' => r = .returned (.int .i64 e) ∧ u.grownBy w' none := by
  have hd' : DeclList u a (smallC q ca bs).D := by rw [small_D, hD]; exact hd
  have hn' : (smallC q ca bs).D.length = n := by rw [small_D, hD]; exact hn
  have h := conf_check (smallC q ca bs) a n k u hd' hn' hm (by simp only [smallC]; unfold i64; omega)
  rw [he] at h
  simpa only [smallC, GC] using h
def CutS (w3 : World) (g3 : Nat) (cs : List Value) (s4 s5 : Value) (wx : World) : Prop := ∃ g4 g5, s4 = .pointer (some ⟨g4, 0, none⟩) ∧ s5 = .pointer (some ⟨g5, 0, none⟩) ∧ g4 ≠ g5 ∧ w3.heap.size ≤ g4 ∧ w3.heap.size ≤ g5 ∧ Box wx g3 49 cs ∧ Box wx g4 49 cs ∧ Box wx g5 49 cs ∧ w3.grownBy wx none
/-- the two boxes, written in either order -/
theorem cutS_of (w3 u : World) (g3 : Nat) (cs Z : List Value) (hlt : g3 < w3.heap.size) (b0 : Box u g3 49 cs) (b1 : Box u w3.heap.size 49 Z) (b2 : Box u (w3.heap.size + 1) 49 Z) (hg : w3.grownBy u none) :
    CutS w3 g3 cs (.pointer (some ⟨w3.heap.size, 0, none⟩)) (.pointer (some ⟨w3.heap.size + 1, 0, none⟩)) ((u.setRow w3.heap.size cs.toArray).setRow (w3.heap.size + 1) cs.toArray) ∧
    CutS w3 g3 cs (.pointer (some ⟨w3.heap.size + 1, 0, none⟩)) (.pointer (some ⟨w3.heap.size, 0, none⟩)) ((u.setRow w3.heap.size cs.toArray).setRow (w3.heap.size + 1) cs.toArray) ∧
    CutS w3 g3 cs (.pointer (some ⟨w3.heap.size, 0, none⟩)) (.pointer (some ⟨w3.heap.size + 1, 0, none⟩)) ((u.setRow (w3.heap.size + 1) cs.toArray).setRow w3.heap.size cs.toArray) ∧
    CutS w3 g3 cs (.pointer (some ⟨w3.heap.size + 1, 0, none⟩)) (.pointer (some ⟨w3.heap.size, 0, none⟩)) ((u.setRow (w3.heap.size + 1) cs.toArray).setRow w3.heap.size cs.toArray) := by
  have c1 := (b0.kept (grown_setRow u w3.heap.size cs.toArray) (by simp; omega)).kept (grown_setRow _ (w3.heap.size + 1) cs.toArray) (by simp; omega)
  have c2 := (b0.kept (grown_setRow u (w3.heap.size + 1) cs.toArray) (by simp; omega)).kept (grown_setRow _ w3.heap.size cs.toArray) (by simp; omega)
  have d1 := (Box.row (cs' := cs) b1).kept (grown_setRow _ (w3.heap.size + 1) cs.toArray) (by simp)
  have d2 := Box.row (cs' := cs) (b2.kept (grown_setRow u w3.heap.size cs.toArray) (by simp))
  have e1 := Box.row (cs' := cs) (b1.kept (grown_setRow u (w3.heap.size + 1) cs.toArray) (by simp))
  have e2 := (Box.row (cs' := cs) b2).kept (grown_setRow _ w3.heap.size cs.toArray) (by simp)
  have g1 := grown_new (grown_new hg (Nat.le_refl _) (grown_setRow u w3.heap.size cs.toArray)) (Nat.le_succ _) (grown_setRow _ (w3.heap.size + 1) cs.toArray)
  have g2 := grown_new (grown_new hg (Nat.le_succ _) (grown_setRow u (w3.heap.size + 1) cs.toArray)) (Nat.le_refl _) (grown_setRow _ w3.heap.size cs.toArray)
  exact ⟨⟨_, _, rfl, rfl, by omega, Nat.le_refl _, Nat.le_succ _, c1, d1, d2, g1⟩, ⟨_, _, rfl, rfl, by omega, Nat.le_succ _, Nat.le_refl _, c1, d2, d1, g1⟩, ⟨_, _, rfl, rfl, by omega, Nat.le_refl _, Nat.le_succ _, c2, e1, e2, g2⟩, ⟨_, _, rfl, rfl, by omega, Nat.le_succ _, Nat.le_refl _, c2, e2, e1, g2⟩⟩
theorem store_cells (u : World) (g : Nat) (cs Z : List Value) (hb : Box u g 49 Z) (hl : cs.length = Z.length) (h1 : cs.all (·.oneCell') = true) :
    (storeCells ⟨g, 0, none⟩ cs 0).run Try.prog u = .ok () (u.setRow g cs.toArray) := by
  have := run_storeCells_from (P := Try.prog) g 49 cs 0 Z.toArray u hb (by simp [hl]) (fun v hv => List.all_eq_true.1 h1 v hv)
  simpa using this

set_option maxHeartbeats 12800000 in
theorem confSmall_walk (n0 n1 n2 n3 n4 n5 n6 n7 n8 n9 n10 n11 : Nat) (h0 : n0 < 256) (h1 : n1 < 256) (h2 : n2 < 256) (h3 : n3 < 65536) (h4 : n4 < 256) (h5 : n5 < 256) (h6 : n6 < 256) (h7 : n7 < 256) (h8 : n8 < 256) (h9 : n9 < 256) (h10 : n10 < 65536) (h11 : n11 < 256) (w : World) :
    Calls Try.prog 10 #[.agg #[.int .u8 (n0 : Int), .int .u8 (n1 : Int), .int .u8 (n2 : Int), .int .u16 (n3 : Int), .int .u8 (n4 : Int), .int .u8 (n5 : Int), .int .u8 (n6 : Int), .int .u8 (n7 : Int), .int .u8 (n8 : Int), .int .u8 (n9 : Int), .int .u16 (n10 : Int), .int .u8 (n11 : Int)]] w fun e w' => e = .returned (.bool true) ∧ Below w.heap.size w w' := by
  have HP := Lib.hid (fun u => conf_config n0 n1 n2 n3 n4 n5 n6 n7 n8 n9 n10 n11 h0 h1 h2 h3 h4 h5 h6 h7 h8 h9 h10 h11 u)
  have hok := smallQ_ok n0 n1 n2 n3 n4 n5 n6 n7 n8 n9 n10 n11 h9 h10 h11
  have hbl : (smallQ n0 n1 n2 n3 n4 n5 n6 n7 n8 n9 n10 n11).bl ≤ 600 := by unfold smallQ; simp only; omega
  generalize smallQ n0 n1 n2 n3 n4 n5 n6 n7 n8 n9 n10 n11 = q at *
  have hnd := smallNeed_le q hok
  have e0 := small_ok q hok
  have e4 := small_less q hok
  have e5 := small_tight q hok
  have hse : q.se ≤ 319 := by obtain ⟨_, _, _, _, _, _, _, x, _, _⟩ := hok; exact x.2
  obtain ⟨nd, hn⟩ : ∃ z : Nat, smallNeed q = z := ⟨_, rfl⟩
  rw [hn] at HP e0 e4 e5 hnd
  obtain ⟨D, hD⟩ : ∃ D, (keysF (q.s : Int) (q.v : Int)).map (mkS q.L q.I q.H) = D := ⟨_, rfl⟩
  have hn40 : D.length ≤ 40 := by rw [← hD, List.length_map, keysF_len]; exact countF_le _ _
  obtain ⟨n, hDn⟩ : ∃ n, D.length = n := ⟨_, rfl⟩
  have hm : n ≤ maxLen := by unfold maxLen; omega
  have HP := Lib.hid (fun u => (HP.out u).mono (R' := fun r w' => ∃ a k, r = .returned (.agg (GC q.s q.v a n k (turnF q.s q.v q.t q.s 0) q.sg q.od q.rt q.se q.ca q.bl nd).toArray) ∧ DeclList w' a D ∧ u.grownBy w' none) (by
    rintro r w' ⟨a, k, h1, h2, h3⟩
    rw [small_D, hD] at h2
    have h4 : (smallC q (q.ca : Int) (nd : Int)).D.length = n := by rw [small_D, hD]; exact hDn
    refine ⟨a, k, ?_, h2, h3⟩
    rw [h1, h4]
    exact (small_cells q a n k (q.ca : Int) (nd : Int) _ rfl).symm))
  have HC0 := Lib.hid (fun a k u hd => small_check q hbl _ _ _ e0 a n k D hD hDn hm u hd)
  have HC4 := Lib.hid (fun a k u hd => small_check q hbl _ _ _ e4 a n k D hD hDn hm u hd)
  have HC5 := Lib.hid (fun a k u hd => small_check q hbl _ _ _ e5 a n k D hD hDn hm u hd)
  have HW := Lib.hid (fun u => conf_works u)
  have hnd1 : 2 ≤ nd := hnd.1
  have hnd2 : nd ≤ 1024 := hnd.2
  obtain ⟨se, hse'⟩ : ∃ z, q.se = z := ⟨_, rfl⟩
  rw [hse'] at hse
  have HSE := Lib.hid (fun _ : True => hse')
  clear hnd e0 e4 e5 hn hD hn40 hDn hm hok hbl hse'
  have hb1 := Box.new w 62 [.int .u8 (n0 : Int), .int .u8 (n1 : Int), .int .u8 (n2 : Int), .int .u16 (n3 : Int), .int .u8 (n4 : Int), .int .u8 (n5 : Int), .int .u8 (n6 : Int), .int .u8 (n7 : Int), .int .u8 (n8 : Int), .int .u8 (n9 : Int), .int .u16 (n10 : Int), .int .u8 (n11 : Int)] w.heap.size rfl
  have hg1 := World.grownBy_alloc w (.cells #[.int .u8 (n0 : Int), .int .u8 (n1 : Int), .int .u8 (n2 : Int), .int .u16 (n3 : Int), .int .u8 (n4 : Int), .int .u8 (n5 : Int), .int .u8 (n6 : Int), .int .u8 (n7 : Int), .int .u8 (n8 : Int), .int .u8 (n9 : Int), .int .u16 (n10 : Int), .int .u8 (n11 : Int)] 62) none
  have hXL := hb1.look
  go_enter Try.func10, Try.ntmps10
  go_wp2_with fail
  generalize w.alloc (.cells #[.int .u8 (n0 : Int), .int .u8 (n1 : Int), .int .u8 (n2 : Int), .int .u16 (n3 : Int), .int .u8 (n4 : Int), .int .u8 (n5 : Int), .int .u8 (n6 : Int), .int .u8 (n7 : Int), .int .u8 (n8 : Int), .int .u8 (n9 : Int), .int .u16 (n10 : Int), .int .u8 (n11 : Int)] 62) = w1 at *
  refine (HP.out w1).mono ?_
  rintro r w2 ⟨a, k, rfl, hd, hg2⟩
  have HC0 := Lib.hid (HC0.out a k)
  have HC4 := Lib.hid (HC4.out a k)
  have HC5 := Lib.hid (HC5.out a k)
  obtain ⟨cs, hcs⟩ : ∃ cs, GC q.s q.v a n k (turnF q.s q.v q.t q.s 0) q.sg q.od q.rt q.se q.ca q.bl nd = cs := ⟨_, rfl⟩
  obtain ⟨cs4, hcs4⟩ : ∃ cs, GC q.s q.v a n k (turnF q.s q.v q.t q.s 0) q.sg q.od q.rt q.se q.ca q.bl ((nd : Int) - 1) = cs := ⟨_, rfl⟩
  obtain ⟨cs5, hcs5⟩ : ∃ cs, GC q.s q.v a n k (turnF q.s q.v q.t q.s 0) q.sg q.od q.rt q.se q.se q.bl nd = cs := ⟨_, rfl⟩
  have f4 : cs.set 25 (.int .i64 ((nd : Int) - 1)) = cs4 := by rw [← hcs, ← hcs4]; rfl
  have f5 : cs.set 23 (.int .i64 (se : Int)) = cs5 := by rw [← hcs, ← hcs5, HSE.out trivial]; rfl
  have i25 : cs[25]? = some (.int .i64 (nd : Int)) := by rw [← hcs]; rfl
  have i22 : cs[22]? = some (.int .i64 (se : Int)) := by rw [← hcs, HSE.out trivial]; rfl
  have i23 : cs[23]? = some (.int .i64 (q.ca : Int)) := by rw [← hcs]; rfl
  have HL := Lib.hid (show cs.length = 26 by rw [← hcs]; rfl)
  have HL4 := Lib.hid (show cs4.length = 26 by rw [← hcs4]; rfl)
  have HL5 := Lib.hid (show cs5.length = 26 by rw [← hcs5]; rfl)
  have H1 := Lib.hid (fun _ : True => show cs.all (·.oneCell') = true by rw [← hcs]; rfl)
  rw [hcs] at HC0 ⊢
  rw [hcs4] at HC4
  rw [hcs5] at HC5
  obtain ⟨caq, hcaq⟩ : ∃ z : Int, (q.ca : Int) = z := ⟨_, rfl⟩
  rw [hcaq] at i23
  have HF := Lib.hid (fun _ : True => And.intro f4 (And.intro f5 (And.intro i25 (And.intro i22 i23))))
  clear hcs hcs4 hcs5 f4 f5 i25 i22 i23 HP hcaq HSE hXL
  have hst : (w2.alloc (.cells #[.int .i64 0, .int .i64 0, .slice none 0 0, .int .u8 0, .int .u8 0, .int .u8 0, .int .u8 0, .int .u8 0, .int .u8 0, .int .u8 0, .int .u8 0, .int .u8 0, .int .u8 0, .int .u8 0, .int .u8 0, .int .u8 0, .int .u8 0, .int .u8 0, .int .u8 0, .int .i64 0, .int .i64 0, .int .i64 0, .int .i64 0, .int .i64 0, .int .i64 0, .int .i64 0] 49)).setRow w2.heap.size cs.toArray = w2.alloc (.cells cs.toArray 49) := Go.World.setRow_alloc_new _ _ _ _
  have hb3 := Box.new w2 49 cs _ rfl
  have hd3 := hd.grown (World.grownBy_alloc w2 (.cells cs.toArray 49) none)
  have hg3 := grown_trans hg1 (growA _ (.cells cs.toArray 49) hg2)
  have HST := Lib.hid (fun _ : True => hst)
  have HBZ := Lib.hid (Box.new w2 49 [.int .i64 0, .int .i64 0, .slice none 0 0, .int .u8 0, .int .u8 0, .int .u8 0, .int .u8 0, .int .u8 0, .int .u8 0, .int .u8 0, .int .u8 0, .int .u8 0, .int .u8 0, .int .u8 0, .int .u8 0, .int .u8 0, .int .u8 0, .int .u8 0, .int .u8 0, .int .i64 0, .int .i64 0, .int .i64 0, .int .i64 0, .int .i64 0, .int .i64 0, .int .i64 0] _ rfl)
  obtain ⟨w3, hw3⟩ : ∃ u, w2.alloc (.cells cs.toArray 49) = u := ⟨_, rfl⟩
  rw [hw3] at hb3 hd3 hg3 HST
  have HB3 := Lib.hid hb3; have HD3 := Lib.hid hd3; have HG3 := Lib.hid hg3
  clear hst hb1 hg1 hd hg2 hb3 hd3 hg3 hw3
  go_wp2_with (refine wpList_store_conf (o := ⟨none, .store 49 _ _, _, _, _, _⟩) rfl _ _ rfl w2.heap.size _ _ rfl rfl HBZ.out HL.out rfl (H1.out trivial) ?_; rw [HST.out trivial]; go_simp)
  clear HBZ HST
  generalize w2.heap.size = g3 at *
  go_cut [4, 5] (fun s4 s5 wx => CutS w3 g3 cs s4 s5 wx)
  case first =>
    have hlt := HB3.out.lt
    have b0 := (HB3.out.alloc (.cells #[.int .i64 0, .int .i64 0, .slice none 0 0, .int .u8 0, .int .u8 0, .int .u8 0, .int .u8 0, .int .u8 0, .int .u8 0, .int .u8 0, .int .u8 0, .int .u8 0, .int .u8 0, .int .u8 0, .int .u8 0, .int .u8 0, .int .u8 0, .int .u8 0, .int .u8 0, .int .i64 0, .int .i64 0, .int .i64 0, .int .i64 0, .int .i64 0, .int .i64 0, .int .i64 0] 49)).alloc (.cells #[.int .i64 0, .int .i64 0, .slice none 0 0, .int .u8 0, .int .u8 0, .int .u8 0, .int .u8 0, .int .u8 0, .int .u8 0, .int .u8 0, .int .u8 0, .int .u8 0, .int .u8 0, .int .u8 0, .int .u8 0, .int .u8 0, .int .u8 0, .int .u8 0, .int .u8 0, .int .i64 0, .int .i64 0, .int .i64 0, .int .i64 0, .int .i64 0, .int .i64 0, .int .i64 0] 49)
    have b1 := (Box.new w3 49 [.int .i64 0, .int .i64 0, .slice none 0 0, .int .u8 0, .int .u8 0, .int .u8 0, .int .u8 0, .int .u8 0, .int .u8 0, .int .u8 0, .int .u8 0, .int .u8 0, .int .u8 0, .int .u8 0, .int .u8 0, .int .u8 0, .int .u8 0, .int .u8 0, .int .u8 0, .int .i64 0, .int .i64 0, .int .i64 0, .int .i64 0, .int .i64 0, .int .i64 0, .int .i64 0] _ rfl).alloc (.cells #[.int .i64 0, .int .i64 0, .slice none 0 0, .int .u8 0, .int .u8 0, .int .u8 0, .int .u8 0, .int .u8 0, .int .u8 0, .int .u8 0, .int .u8 0, .int .u8 0, .int .u8 0, .int .u8 0, .int .u8 0, .int .u8 0, .int .u8 0, .int .u8 0, .int .u8 0, .int .i64 0, .int .i64 0, .int .i64 0, .int .i64 0, .int .i64 0, .int .i64 0, .int .i64 0] 49)
    have b2 := Box.new (w3.alloc (.cells #[.int .i64 0, .int .i64 0, .slice none 0 0, .int .u8 0, .int .u8 0, .int .u8 0, .int .u8 0, .int .u8 0, .int .u8 0, .int .u8 0, .int .u8 0, .int .u8 0, .int .u8 0, .int .u8 0, .int .u8 0, .int .u8 0, .int .u8 0, .int .u8 0, .int .u8 0, .int .i64 0, .int .i64 0, .int .i64 0, .int .i64 0, .int .i64 0, .int .i64 0, .int .i64 0] 49)) 49 [.int .i64 0, .int .i64 0, .slice none 0 0, .int .u8 0, .int .u8 0, .int .u8 0, .int .u8 0, .int .u8 0, .int .u8 0, .int .u8 0, .int .u8 0, .int .u8 0, .int .u8 0, .int .u8 0, .int .u8 0, .int .u8 0, .int .u8 0, .int .u8 0, .int .u8 0, .int .i64 0, .int .i64 0, .int .i64 0, .int .i64 0, .int .i64 0, .int .i64 0, .int .i64 0] (w3.heap.size + 1) (by simp)
    have hgu := grown_drew (growA _ (.cells #[.int .i64 0, .int .i64 0, .slice none 0 0, .int .u8 0, .int .u8 0, .int .u8 0, .int .u8 0, .int .u8 0, .int .u8 0, .int .u8 0, .int .u8 0, .int .u8 0, .int .u8 0, .int .u8 0, .int .u8 0, .int .u8 0, .int .u8 0, .int .u8 0, .int .u8 0, .int .i64 0, .int .i64 0, .int .i64 0, .int .i64 0, .int .i64 0, .int .i64 0, .int .i64 0] 49) (World.grownBy_alloc w3 (.cells #[.int .i64 0, .int .i64 0, .slice none 0 0, .int .u8 0, .int .u8 0, .int .u8 0, .int .u8 0, .int .u8 0, .int .u8 0, .int .u8 0, .int .u8 0, .int .u8 0, .int .u8 0, .int .u8 0, .int .u8 0, .int .u8 0, .int .u8 0, .int .u8 0, .int .u8 0, .int .i64 0, .int .i64 0, .int .i64 0, .int .i64 0, .int .i64 0, .int .i64 0, .int .i64 0] 49) none))
    have HCUT := Lib.hid (cutS_of w3 ((w3.alloc (.cells #[.int .i64 0, .int .i64 0, .slice none 0 0, .int .u8 0, .int .u8 0, .int .u8 0, .int .u8 0, .int .u8 0, .int .u8 0, .int .u8 0, .int .u8 0, .int .u8 0, .int .u8 0, .int .u8 0, .int .u8 0, .int .u8 0, .int .u8 0, .int .u8 0, .int .u8 0, .int .i64 0, .int .i64 0, .int .i64 0, .int .i64 0, .int .i64 0, .int .i64 0, .int .i64 0] 49)).alloc (.cells #[.int .i64 0, .int .i64 0, .slice none 0 0, .int .u8 0, .int .u8 0, .int .u8 0, .int .u8 0, .int .u8 0, .int .u8 0, .int .u8 0, .int .u8 0, .int .u8 0, .int .u8 0, .int .u8 0, .int .u8 0, .int .u8 0, .int .u8 0, .int .u8 0, .int .u8 0, .int .i64 0, .int .i64 0, .int .i64 0, .int .i64 0, .int .i64 0, .int .i64 0, .int .i64 0] 49)).drew g3 cs [.int .i64 0, .int .i64 0, .slice none 0 0, .int .u8 0, .int .u8 0, .int .u8 0, .int .u8 0, .int .u8 0, .int .u8 0, .int .u8 0, .int .u8 0, .int .u8 0, .int .u8 0, .int .u8 0, .int .u8 0, .int .u8 0, .int .u8 0, .int .u8 0, .int .u8 0, .int .i64 0, .int .i64 0, .int .i64 0, .int .i64 0, .int .i64 0, .int .i64 0, .int .i64 0] hlt b0.drew b1.drew b2.drew hgu)
    obtain ⟨N, hN⟩ : ∃ N : Nat, N = 26 := ⟨_, rfl⟩
    have hlN : cs.length = N := by rw [hN]; exact HL.out
    have ld1 := load_row w3.drew g3 cs N hlN (range_conf HB3.out.drew)
    have ld2 := fun o => load_row (w3.alloc o).drew g3 cs N hlN (range_conf (HB3.out.alloc o).drew)
    have ld3 := fun o1 o2 => load_row ((w3.alloc o1).alloc o2).drew g3 cs N hlN (range_conf ((HB3.out.alloc o1).alloc o2).drew)
    have ld4 := load_row _ g3 cs N hlN (range_conf (b0.drew.kept (grown_setRow _ w3.heap.size cs.toArray) (by simp; omega)))
    have ld5 := load_row _ g3 cs N hlN (range_conf (b0.drew.kept (grown_setRow _ (w3.heap.size + 1) cs.toArray) (by simp; omega)))
    have sc1 := store_cells _ w3.heap.size cs [.int .i64 0, .int .i64 0, .slice none 0 0, .int .u8 0, .int .u8 0, .int .u8 0, .int .u8 0, .int .u8 0, .int .u8 0, .int .u8 0, .int .u8 0, .int .u8 0, .int .u8 0, .int .u8 0, .int .u8 0, .int .u8 0, .int .u8 0, .int .u8 0, .int .u8 0, .int .i64 0, .int .i64 0, .int .i64 0, .int .i64 0, .int .i64 0, .int .i64 0, .int .i64 0] b1.drew (by rw [HL.out]; rfl) (H1.out trivial)
    have sc2 := store_cells _ (w3.heap.size + 1) cs [.int .i64 0, .int .i64 0, .slice none 0 0, .int .u8 0, .int .u8 0, .int .u8 0, .int .u8 0, .int .u8 0, .int .u8 0, .int .u8 0, .int .u8 0, .int .u8 0, .int .u8 0, .int .u8 0, .int .u8 0, .int .u8 0, .int .u8 0, .int .u8 0, .int .u8 0, .int .i64 0, .int .i64 0, .int .i64 0, .int .i64 0, .int .i64 0, .int .i64 0, .int .i64 0] b2.drew (by rw [HL.out]; rfl) (H1.out trivial)
    have sc3 := store_cells _ w3.heap.size cs [.int .i64 0, .int .i64 0, .slice none 0 0, .int .u8 0, .int .u8 0, .int .u8 0, .int .u8 0, .int .u8 0, .int .u8 0, .int .u8 0, .int .u8 0, .int .u8 0, .int .u8 0, .int .u8 0, .int .u8 0, .int .u8 0, .int .u8 0, .int .u8 0, .int .u8 0, .int .i64 0, .int .i64 0, .int .i64 0, .int .i64 0, .int .i64 0, .int .i64 0, .int .i64 0] (b1.drew.kept (grown_setRow _ (w3.heap.size + 1) cs.toArray) (by simp)) (by rw [HL.out]; rfl) (H1.out trivial)
    have sc4 := store_cells _ (w3.heap.size + 1) cs [.int .i64 0, .int .i64 0, .slice none 0 0, .int .u8 0, .int .u8 0, .int .u8 0, .int .u8 0, .int .u8 0, .int .u8 0, .int .u8 0, .int .u8 0, .int .u8 0, .int .u8 0, .int .u8 0, .int .u8 0, .int .u8 0, .int .u8 0, .int .u8 0, .int .u8 0, .int .i64 0, .int .i64 0, .int .i64 0, .int .i64 0, .int .i64 0, .int .i64 0, .int .i64 0] (b2.drew.kept (grown_setRow _ w3.heap.size cs.toArray) (by simp)) (by rw [HL.out]; rfl) (H1.out trivial)
    obtain ⟨T, hT⟩ : ∃ T : TypeId, T = 49 := ⟨_, rfl⟩
    have t1 : ∀ u, (isAgg T).run Try.prog u = .ok true u := fun u => by rw [hT]; exact Try.isAgg49 u
    have t2 : ∀ u, (sizeOf T).run Try.prog u = .ok N u := fun u => by rw [hT, hN]; exact Try.sizeOf49 u
    rw [show Op.load 49 (Operand.tmp 3) = Op.load T (Operand.tmp 3) from by rw [hT], show Op.store 49 (Operand.tmp 4) (Operand.tmp 8) = Op.store T (Operand.tmp 4) (Operand.tmp 8) from by rw [hT], show Op.store 49 (Operand.tmp 5) (Operand.tmp 9) = Op.store T (Operand.tmp 5) (Operand.tmp 9) from by rw [hT]]
    have HTT := Lib.hid hT; have HNN := Lib.hid hN
    clear hT hN b0 b1 b2 hgu
    go_region_law (fail)
    all_goals (
      clear ld1 ld2 ld3 ld4 ld5 sc1 sc2 sc3 sc4 t1 t2 hlN
      go_wp2_with fail
      go_meet
      first | exact HCUT.out.1 | exact HCUT.out.2.1 | exact HCUT.out.2.2.1 | exact HCUT.out.2.2.2)
  case rest =>
  obtain ⟨g4, g5, rfl, rfl, hne, hl4, hl5, b3, b4, b5, hg⟩ := hcut
  have hlt := HB3.out.lt
  obtain ⟨F4, F5, i25, i22, i23⟩ := HF.out trivial
  have l25 := b4.cell 25 i25
  have o4 := b4.open
  have b5' := b5.kept (grown_setCell wc g4 25 (.int .i64 ((nd : Int) - 1))) (by simpa using hne)
  have l22 := b5'.cell 22 i22
  have l23 := b5'.cell 23 i23
  have o5 := b5'.open
  have qn : wrap64 ((nd : Int) - 1) = (nd : Int) - 1 := by unfold wrap64; omega
  obtain ⟨wf, hwf⟩ : ∃ u, (wc.setCell ⟨g4, 25, none⟩ (.int .i64 ((nd : Int) - 1))).setCell ⟨g5, 23, none⟩ (.int .i64 (se : Int)) = u := ⟨_, rfl⟩
  have hgf : w3.grownBy wf none := by rw [← hwf]; exact grown_new (grown_new hg hl4 (grown_setCell _ _ _ _)) hl5 (grown_setCell _ _ _ _)
  have B3 : Box wf g3 49 cs := by rw [← hwf]; exact (b3.kept (grown_setCell _ g4 _ _) (by simp; omega)).kept (grown_setCell _ g5 _ _) (by simp; omega)
  have B4 : Box wf g4 49 cs4 := by rw [← hwf, ← F4]; exact (b4.set 25 _).kept (grown_setCell _ g5 _ _) (by simp; omega)
  have B5 : Box wf g5 49 cs5 := by rw [← hwf, ← F5]; exact b5'.set 23 _
  have HWF := Lib.hid (fun _ : True => hwf)
  have HB3' := Lib.hid (fun u (h : wf.grownBy u none) => B3.grown h)
  have HB4 := Lib.hid (fun u (h : wf.grownBy u none) => B4.grown h)
  have HB5 := Lib.hid (fun u (h : wf.grownBy u none) => B5.grown h)
  have HGF := Lib.hid (grown_trans HG3.out hgf)
  have HC0 := Lib.hid (fun u (h : wf.grownBy u none) => HC0.out u (HD3.out.grown (grown_trans hgf h)))
  have HC4 := Lib.hid (fun u (h : wf.grownBy u none) => HC4.out u (HD3.out.grown (grown_trans hgf h)))
  have HC5 := Lib.hid (fun u (h : wf.grownBy u none) => HC5.out u (HD3.out.grown (grown_trans hgf h)))
  have hr : wf.grownBy wf none := World.grownBy.refl _ _
  clear b3 b4 b5 b5' hg F4 F5 i25 i22 i23 hwf hgf B3 B4 B5 hl4 hl5 hlt
  go_wp2_with (first
    | (refine wpList_load_conf (o := ⟨some 17, _, _, _, _, _⟩) rfl _ rfl g3 _ rfl (by rw [HWF.out trivial]; exact HB3'.out _ hr) HL.out ?_; rw [HWF.out trivial])
    | (refine wpList_load_confG (o := ⟨some 21, _, _, _, _, _⟩) (by go_simp) _ rfl g4 _ rfl (HB4.out _ (by with_reducible assumption)) HL4.out ?_)
    | (refine wpList_load_confG (o := ⟨some 26, _, _, _, _, _⟩) (by go_simp) _ rfl g5 _ rfl (HB5.out _ (by with_reducible assumption)) HL5.out ?_)
    | (go_at_call 27; (with_reducible refine (HC0.out _ (by with_reducible assumption)).mono ?_); rintro r x0 ⟨rfl, y0⟩; have z0 := growT y0 (by with_reducible assumption : wf.grownBy _ none))
    | (go_at_call 27; (with_reducible refine (HC4.out _ (by with_reducible assumption)).mono ?_); rintro r x4 ⟨rfl, y4⟩; have z4 := growT y4 (by with_reducible assumption : wf.grownBy _ none))
    | (go_at_call 27; (with_reducible refine (HC5.out _ (by with_reducible assumption)).mono ?_); rintro r x5 ⟨rfl, y5⟩; have z5 := growT y5 (by with_reducible assumption : wf.grownBy _ none))
    | (go_at_call 26; (with_reducible refine (HW.out _).mono ?_); rintro r x6 ⟨rfl, y6⟩; have z6 := growT y6 (by with_reducible assumption : wf.grownBy _ none)))
  go_ret
  exact ⟨rfl, grown_below (grown_trans HGF.out (by with_reducible assumption))⟩

end Go.Proofs.Ytfmcbnoldcfcbaa
