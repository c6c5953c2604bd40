/-
  The walk through the document's 'Decode' of masters.
-/
import Derived.Test.YtfmcbnoldcfcbaaDoorMasterRDec
import Derived.Test.YtfmcbnoldcfcbaaDoorLook
import Derived.Deep.DeepCutAuto
namespace Go.Proofs.YtfmcbnoldcfcbaaDoor
open Go.RowKit

theorem keepT {a b c : World} (k : b.grownBy c none) (h : a.grownBy b none) : a.grownBy c none := grown_trans h k
theorem keepA {a b : World} {o : Obj} (h : a.grownBy b none) : a.grownBy (b.alloc o) none := grown_trans h (World.grownBy_alloc _ _ none)
theorem keep5 {a b : World} {g : Nat} {v0 v1 v2 v3 v4 : Value} (h : a.grownBy b none) (hg : a.heap.size ≤ g) : a.grownBy (((((b.setCell ⟨g, 0, none⟩ v0).setCell ⟨g, 1, none⟩ v1).setCell ⟨g, 2, none⟩ v2).setCell ⟨g, 3, none⟩ v3).setCell ⟨g, 4, none⟩ v4) none := grown_new h hg (grown5 _ _ _ _ _ _ _)
theorem bxsize {a b c : World} {o : Obj} (_ : (b.alloc o).grownBy c none) (h : a.grownBy b none) : a.heap.size ≤ b.heap.size := h.size
theorem keepAD {a b : World} {o : Obj} (h : a.grownBy b.drew none) : a.grownBy (b.alloc o).drew none := grown_drew (grown_trans (show a.grownBy b none from ⟨h.os, h.tape, h.output, h.size, h.block⟩) (World.grownBy_alloc b o none))
theorem bxsizeD {a b c : World} {o : Obj} (_ : (b.alloc o).drew.grownBy c none) (h : a.grownBy b.drew none) : a.heap.size ≤ b.heap.size := h.size
theorem wrap_64 (x : Int) : wrap64 x = IntKind.i64.wrap x := by rw [IntKind.wrap_i64]; unfold wrap64; rfl
def CutM (w3 : World) (T : TypeId) (m : MasterV) (s8 : Value) (wx : World) : Prop :=
  ∃ g : Nat, s8 = .pointer (some ⟨g, 0, none⟩) ∧ Box wx g T [.int .u64 (m.gen : Int), .int .u8 (m.area.toNat : Int), .int .i64 m.redo, .int .i64 m.tab, .int .i64 m.size] ∧ w3.grownBy wx none ∧ w3.heap.size ≤ g
def mcells (m : MasterV) : List Value := [.int .u64 (m.gen : Int), .int .u8 (m.area.toNat : Int), .int .i64 m.redo, .int .i64 m.tab, .int .i64 m.size]
set_option maxRecDepth 100000 in
set_option maxHeartbeats 1600000 in
theorem ref_decode {X : Nat → Prop} (a : Option Addr) (n cap : Nat) (l : List UInt8) (w : World) (hs : RS w X a n cap l) (hm : n ≤ 1000) :
    Calls Tryd.prog 11 #[.slice a n cap] w (DecPost w (decM l)) := by
  have HS := Lib.hid hs
  have hcap := hs.le
  clear hs
  have HG0 := Lib.hid (grown_trans (World.grownBy_alloc w (.cells #[.int .u64 0, .int .u8 0, .int .i64 0, .int .i64 0, .int .i64 0] 24) none) (World.grownBy_alloc _ (.cells #[.int .u64 0, .int .u8 0, .int .i64 0, .int .i64 0, .int .i64 0] 24) none))
  by_cases h45 : n < 45
  · have hx : decM l = (zeroM, 6) := by unfold decM; rw [if_pos (by rw [HS.out.len]; exact h45)]
    rw [hx]
    have h45' : (n : Int) < 45 := by omega
    go_enter Tryd.func11, Tryd.ntmps11
    go_wp2_with fail
    refine bodyPost_ret (v := .tuple #[.agg #[.int .u64 0, .int .u8 0, .int .i64 0, .int .i64 0, .int .i64 0], .int .i64 6]) ?_ rfl ?_
    · simp only [results]
      go_simp
    · exact ⟨rfl, HG0.out⟩
  have h45' : (45 : Int) ≤ (n : Int) := by omega
  have h37c : (37 : Int) < (cap : Int) := by omega
  have h37n : (37 : Int) ≤ (n : Int) := by omega
  have hlen : l.length = n := HS.out.len
  obtain ⟨ba, oa, ha, _⟩ := HS.out.rx.rb.get 0 (by omega)
  subst ha
  have HRD := Lib.hid (show ∀ (w' : World) (k : Nat), k ≤ n → w.grownBy w' none → RS w' X (some ⟨ba, oa + k, none⟩) (n - k) (cap - k) (l.drop k) from fun w' k hk hg => (show RS w X (some ⟨ba, oa + k, none⟩) (n - k) (cap - k) (l.drop k) from ⟨by rw [List.length_drop, hlen], by omega, by have := HS.out.max; omega, by simpa [Addr.add_lit] using RX.drop HS.out.rx k⟩).grown hg)
  have HNM := Lib.hid (show ∀ (w' : World) (k : Nat), k ≤ n → w.grownBy w' none → Calls Tryd.prog 29 #[.slice (some ⟨ba, oa + k, none⟩) (n - k) (cap - k)] w' fun r w'' => r = .returned (.int .u64 (numM (l.drop k) : Int)) ∧ w'.grownBy w'' none from fun w' k hk hg => ref_num8 _ _ _ _ w' (HRD.out w' k hk hg))
  have HNM0 := Lib.hid (show ∀ (w' : World), w.grownBy w' none → Calls Tryd.prog 29 #[.slice (some ⟨ba, oa, none⟩) n cap] w' fun r w'' => r = .returned (.int .u64 (numM l : Int)) ∧ w'.grownBy w'' none from fun w' hg => ref_num8 _ _ _ _ w' (HS.out.grown hg))
  have HLEN := Lib.hid hlen
  have HDEC := Lib.hid (decM_num (l := l) (by omega))
  obtain ⟨M, hM⟩ : ∃ M, parseM l = M := ⟨_, rfl⟩
  have HPN := parseM_num (l := l) (by omega)
  rw [hM] at HDEC HPN
  have HR := Lib.hid (Box.new w 24 (mcells zeroM) w.heap.size rfl |>.alloc (.cells #[.int .u64 0, .int .u8 0, .int .i64 0, .int .i64 0, .int .i64 0] 24) |>.drew)
  have HN := Lib.hid (Box.new (w.alloc (.cells #[.int .u64 0, .int .u8 0, .int .i64 0, .int .i64 0, .int .i64 0] 24)) 24 (mcells zeroM) (w.heap.size + 1) (by simp) |>.drew)
  have hc37 : ¬ cap = 37 := by omega
  obtain ⟨G, hG⟩ : ∃ G, numM l = G := ⟨_, rfl⟩
  obtain ⟨T, hT⟩ : ∃ T, numM (l.drop 37) = T := ⟨_, rfl⟩
  obtain ⟨c8, h8⟩ : ∃ c8, l.getD 8 0 = c8 := ⟨_, rfl⟩
  have HM9 := Lib.hid (show ∀ (w' : World), w.grownBy w' none → Calls Tryd.prog 29 #[.slice (some ⟨ba, oa + 9, none⟩) (n - 9) (cap - 9)] w' fun r w'' => r = .returned (.int .u64 (numM (l.drop 9) : Int)) ∧ w'.grownBy w'' none from fun w' hg => HNM.out w' 9 (by omega) hg)
  have HM17 := Lib.hid (show ∀ (w' : World), w.grownBy w' none → Calls Tryd.prog 29 #[.slice (some ⟨ba, oa + 17, none⟩) (n - 17) (cap - 17)] w' fun r w'' => r = .returned (.int .u64 (numM (l.drop 17) : Int)) ∧ w'.grownBy w'' none from fun w' hg => HNM.out w' 17 (by omega) hg)
  have HM25 := Lib.hid (show ∀ (w' : World), w.grownBy w' none → Calls Tryd.prog 29 #[.slice (some ⟨ba, oa + 25, none⟩) (n - 25) (cap - 25)] w' fun r w'' => r = .returned (.int .u64 (numM (l.drop 25) : Int)) ∧ w'.grownBy w'' none from fun w' hg => HNM.out w' 25 (by omega) hg)
  have HM37 := Lib.hid (show ∀ (w' : World), w.grownBy w' none → Calls Tryd.prog 29 #[.slice (some ⟨ba, oa + 37, none⟩) (n - 37) (cap - 37)] w' fun r w'' => r = .returned (.int .u64 (numM (l.drop 37) : Int)) ∧ w'.grownBy w'' none from fun w' hg => HNM.out w' 37 (by omega) hg)
  obtain ⟨R, hR⟩ : ∃ R, numM (l.drop 9) = R := ⟨_, rfl⟩
  obtain ⟨B, hB⟩ : ∃ B, numM (l.drop 17) = B := ⟨_, rfl⟩
  obtain ⟨Z, hZ⟩ : ∃ Z, numM (l.drop 25) = Z := ⟨_, rfl⟩
  rw [hG, h8, hR, hB, hZ] at HPN
  rw [hG, hT] at HDEC
  rw [hG] at HNM0
  rw [hR] at HM9
  rw [hB] at HM17
  rw [hZ] at HM25
  rw [hT] at HM37
  rw [wrap_64, wrap_64, wrap_64] at HPN
  obtain ⟨R', hwR⟩ : ∃ R', IntKind.i64.wrap (R : Int) = R' := ⟨_, rfl⟩
  obtain ⟨B', hwB⟩ : ∃ B', IntKind.i64.wrap (B : Int) = B' := ⟨_, rfl⟩
  obtain ⟨Z', hwZ⟩ : ∃ Z', IntKind.i64.wrap (Z : Int) = Z' := ⟨_, rfl⟩
  rw [hwR, hwB, hwZ] at HPN
  subst HPN
  have H8 := Lib.hid h8
  clear HNM hG hT h8 hR hB hZ
  have SI := set_idx
  have SF := set_far
  clear hlen hM
  go_enter Tryd.func11, Tryd.ntmps11
  go_wp2_with fail
  have HGD := Lib.hid (grown_trans HG0.out (grown_drew1 _))
  go_region_held_law (fun _ => True) (trivial) (first
    | (go_at_call 29; (with_reducible refine (HNM0.out _ HGD.out).mono ?_); rintro e w1 ⟨rfl, hg1⟩; have hgw := grown_trans HGD.out hg1)
    | (go_at_call 29; (with_reducible refine (HM37.out _ hgw).mono ?_); rintro e w2 ⟨rfl, hg2⟩))
  have HG2 := Lib.hid (grown_trans hgw hg2)
  have R2 := (((HR.out.grown hg1).grown hg2)).look
  have RO2 := (((HR.out.grown hg1).grown hg2)).open
  have N2 := (((HN.out.grown hg1).grown hg2)).look
  have HR2 := Lib.hid ((HR.out.grown hg1).grown hg2)
  have HN2 := Lib.hid ((HN.out.grown hg1).grown hg2)
  clear hgw hg1 hg2
  simp only [mcells, zeroM] at R2 N2
  by_cases hne : G = T
  · have hne' : ((G : Int) != (T : Int)) = false := by simp; omega
    have hd := HDEC.out
    rw [if_neg (by rw [hne]; simp)] at hd
    have HDEC := Lib.hid hd
    have HNE := Lib.hid hne
    have hS := valN_fit (l.drop 33) 4
    obtain ⟨S, hSS⟩ : ∃ S, valN ((l.drop 33).take 4) = S := ⟨_, rfl⟩
    rw [hSS] at hS HDEC
    have hwS : IntKind.u32.wrap (S : Int) = (S : Int) := wrap_u32 _ (by omega) (by omega)
    have hgn : getNum (l.drop 33) 4 = (S, (l.drop 33).drop 4, 0) := by
      unfold getNum
      rw [if_neg (by omega), if_neg (by rw [List.length_drop, HLEN.out]; omega), ← hSS]
      rfl
    have hc33 : ¬ cap = 33 := by omega
    have HCN := Lib.hid (ref_getnum _ _ _ _ 4 w2 (HRD.out w2 33 (by omega) HG2.out))
    rw [hgn] at HCN
    have h33n : (33 : Int) ≤ (n : Int) := by omega
    have h33c : (33 : Int) ≤ (cap : Int) := by omega
    clear hne hd hSS hgn
    go_wp2_with fail
    refine HCN.out.mono ?_
    rintro r w3 ⟨r3, n3, c3, rfl, _, hg⟩
    have HG3 := Lib.hid (grown_trans HG2.out hg); have HR3 := Lib.hid (HR2.out.grown hg); have HN3 := Lib.hid (HN2.out.grown hg)
    clear hg R2 RO2 N2 HR2 HN2
    go_wp2_with fail
    refine (rsum_any _ 33 _ (l.take 33) w3 (by rw [List.length_take, HLEN.out]; omega) (by decide) ((HS.out.rx.rb.old (grown_below HG3.out)).take 33)).mono ?_
    rintro r w4 ⟨rfl, rfl⟩
    rw [sumN_eq]
    have R3 := HR3.out.look; have RO3 := HR3.out.open; have N3 := HN3.out.look
    simp only [mcells, zeroM] at R3 N3
    by_cases hsm : sumN (l.take 33) = S
    · have hsm' : ((S : Int) != (sumN (l.take 33) : Int)) = false := by simp; omega
      have hd := HDEC.out
      rw [if_neg (by rw [hsm]; simp)] at hd
      have HDEC := Lib.hid hd
      have HSM := Lib.hid hsm
      clear hsm hd
      obtain ⟨b9, o9, e9, hc8⟩ := HS.out.rx.rb.get 8 (by rw [HLEN.out]; omega)
      cases e9
      rw [H8.out] at hc8
      unfold bval at hc8
      have hc8 := grown_cell HG3.out hc8
      have hcr : ∀ w', w3.grownBy w' none → w'.cell? ⟨ba, oa + 8, none⟩ = some (.int .u8 (c8.toNat : Int)) := fun w' hg => grown_cell hg hc8
      have hS0 : w3.grownBy w3.drew none := grown_drew1 _
      have hS1 : w3.grownBy w3 none := World.grownBy.refl _ _
      have K0 := Lib.hid (fun w' (hg : w3.grownBy w' none) => HNM0.out w' (grown_trans HG3.out hg))
      have K9 := Lib.hid (fun w' (hg : w3.grownBy w' none) => HM9.out w' (grown_trans HG3.out hg))
      have K17 := Lib.hid (fun w' (hg : w3.grownBy w' none) => HM17.out w' (grown_trans HG3.out hg))
      have K25 := Lib.hid (fun w' (hg : w3.grownBy w' none) => HM25.out w' (grown_trans HG3.out hg))
      have h8n : (8 : Int) < (n : Int) := by omega
      have h9 : (9 : Int) ≤ (n : Int) := by omega
      have h9c : (9 : Int) ≤ (cap : Int) := by omega
      have h17 : (17 : Int) ≤ (n : Int) := by omega
      have h17c : (17 : Int) ≤ (cap : Int) := by omega
      have h25 : (25 : Int) ≤ (n : Int) := by omega
      have h25c : (25 : Int) ≤ (cap : Int) := by omega
      have k9 : ¬ cap = 9 := by omega
      have k17 : ¬ cap = 17 := by omega
      have k25 : ¬ cap = 25 := by omega
      clear hc8
      go_wp2_with fail
      have HB3 := Lib.hid HR3.out.lt
      clear R3 RO3 N3
      go_cut [8] (fun s8 wx => CutM w3 24 ⟨G, c8, R', B', Z'⟩ s8 wx)
      case first =>
       go_region_held_law (fun w' => w3.grownBy w' none) (with_reducible (first | assumption | exact keepA (by assumption) | exact keepAD (by assumption) | exact keep5 (by assumption) (by omega))) (first
        | (go_at_call 29; (with_reducible refine (K0.out (World.alloc _ _) (by assumption)).mono ?_); rintro e wa ⟨rfl, hga⟩; have hSa := keepT hga (by with_reducible assumption); have hbx := (Box.new _ 24 [.int .u64 0, .int .u8 0, .int .i64 0, .int .i64 0, .int .i64 0] _ rfl).grown hga; have hbl := hbx.look; have hbo := hbx.open; have hbg := bxsize hga (by with_reducible assumption))
        | (go_at_call 29; (with_reducible refine (K0.out (World.drew (World.alloc _ _)) (by assumption)).mono ?_); rintro e wa ⟨rfl, hga⟩; have hSa := keepT hga (by with_reducible assumption); have hbx := (Box.new _ 24 [.int .u64 0, .int .u8 0, .int .i64 0, .int .i64 0, .int .i64 0] _ rfl).drew.grown hga; have hbl := hbx.look; have hbo := hbx.open; have hbg := bxsizeD hga (by with_reducible assumption))
        | (go_at_call 29; (with_reducible refine (K9.out (World.alloc _ _) (by assumption)).mono ?_); rintro e wa ⟨rfl, hga⟩; have hSa := keepT hga (by with_reducible assumption); have hbx := (Box.new _ 24 [.int .u64 0, .int .u8 0, .int .i64 0, .int .i64 0, .int .i64 0] _ rfl).grown hga; have hbl := hbx.look; have hbo := hbx.open; have hbg := bxsize hga (by with_reducible assumption))
        | (go_at_call 29; (with_reducible refine (K17.out (World.alloc _ _) (by assumption)).mono ?_); rintro e wa ⟨rfl, hga⟩; have hSa := keepT hga (by with_reducible assumption); have hbx := (Box.new _ 24 [.int .u64 0, .int .u8 0, .int .i64 0, .int .i64 0, .int .i64 0] _ rfl).grown hga; have hbl := hbx.look; have hbo := hbx.open; have hbg := bxsize hga (by with_reducible assumption))
        | (go_at_call 29; (with_reducible refine (K25.out (World.alloc _ _) (by assumption)).mono ?_); rintro e wa ⟨rfl, hga⟩; have hSa := keepT hga (by with_reducible assumption); have hbx := (Box.new _ 24 [.int .u64 0, .int .u8 0, .int .i64 0, .int .i64 0, .int .i64 0] _ rfl).grown hga; have hbl := hbx.look; have hbo := hbx.open; have hbg := bxsize hga (by with_reducible assumption))
        | (go_at_call 29; (with_reducible refine (K0.out _ (by assumption)).mono ?_); rintro e wa ⟨rfl, hga⟩; have hSa := keepT hga (by with_reducible assumption); try (have hbx := Box.grown (by with_reducible assumption) hga; have hbl := hbx.look; have hbo := hbx.open))
        | (go_at_call 29; (with_reducible refine (K9.out _ (by assumption)).mono ?_); rintro e wa ⟨rfl, hga⟩; have hSa := keepT hga (by with_reducible assumption); try (have hbx := Box.grown (by with_reducible assumption) hga; have hbl := hbx.look; have hbo := hbx.open))
        | (go_at_call 29; (with_reducible refine (K17.out _ (by assumption)).mono ?_); rintro e wa ⟨rfl, hga⟩; have hSa := keepT hga (by with_reducible assumption); try (have hbx := Box.grown (by with_reducible assumption) hga; have hbl := hbx.look; have hbo := hbx.open))
        | (go_at_call 29; (with_reducible refine (K25.out _ (by assumption)).mono ?_); rintro e wa ⟨rfl, hga⟩; have hSa := keepT hga (by with_reducible assumption); try (have hbx := Box.grown (by with_reducible assumption) hga; have hbl := hbx.look; have hbo := hbx.open)))
       all_goals (
         go_wp2_with fail
         go_meet
         unfold CutM
         first
         | (refine ⟨_, rfl, ?_, ?_, ?_⟩
            · with_reducible exact set5 (by assumption) _ _ _ _ _
            · with_reducible exact keep5 (by assumption) hbg
            · with_reducible exact hbg)
         | (refine ⟨_, rfl, ?_, ?_, ?_⟩
            · with_reducible exact Box.new _ _ _ _ rfl
            · with_reducible exact keepA (by assumption)
            · exact World.grownBy.size (by with_reducible assumption)))
      case rest =>
       unfold CutM at hcut
       obtain ⟨gm, rfl, hbm, hgc, hgm⟩ := hcut
       have HGC := Lib.hid (grown_trans HG3.out hgc); have HRC := Lib.hid (HR3.out.grown hgc); have HNC := Lib.hid (HN3.out.grown hgc); have HBM := Lib.hid hbm
       have HGM := Lib.hid hgm
       have M0 := hbm.look
       clear hbm hgc hgm hwR hwB hwZ hcr hS0 hS1
       have HGD := Lib.hid (ref_good ⟨G, c8, R', B', Z'⟩ wc)
       by_cases hgd : GoodM ⟨G, c8, R', B', Z'⟩
       · rw [decide_eq_true hgd] at HGD
         have HX := Lib.hid (show decM l = (⟨G, c8, R', B', Z'⟩, 0) by rw [HDEC.out, if_pos hgd])
         clear hgd
         go_wp2_with fail
         refine HGD.out.mono ?_
         rintro r wd ⟨rfl, hg⟩
         have HG4 := Lib.hid (grown_trans HGC.out hg)
         have R4 := (HRC.out.grown hg).look; have RO4 := (HRC.out.grown hg).open; have M4 := (HBM.out.grown hg).look
         have hne : gm ≠ w.heap.size := by have := HB3.out; have := HGM.out; omega
         simp only [mcells, zeroM] at R4
         clear hg M0
         go_wp2_with fail
         refine bodyPost_ret (v := .tuple #[.agg #[.int .u64 (G : Int), .int .u8 (c8.toNat : Int), .int .i64 R', .int .i64 B', .int .i64 Z'], .int .i64 0]) ?_ rfl ?_
         · simp only [results]
           go_simp
         · rw [HX.out]
           exact ⟨rfl, grown_new HG4.out (Nat.le_refl _) (grown5 _ _ _ _ _ _ _)⟩
       · rw [decide_eq_false hgd] at HGD
         have HX := Lib.hid (show decM l = (zeroM, 8) by rw [HDEC.out, if_neg hgd])
         clear hgd
         go_wp2_with fail
         refine HGD.out.mono ?_
         rintro r wd ⟨rfl, hg⟩
         have HG4 := Lib.hid (grown_trans HGC.out hg)
         have R4 := (HRC.out.grown hg).look; have RO4 := (HRC.out.grown hg).open; have N4 := (HNC.out.grown hg).look
         simp only [mcells, zeroM] at R4 N4
         clear hg M0
         go_wp2_with fail
         refine bodyPost_ret (v := .tuple #[.agg #[.int .u64 0, .int .u8 0, .int .i64 0, .int .i64 0, .int .i64 0], .int .i64 8]) ?_ rfl ?_
         · simp only [results]
           go_simp
         · rw [HX.out]
           exact ⟨rfl, grown_new HG4.out (Nat.le_refl _) (grown5 _ _ _ _ _ _ _)⟩
    · have hsm' : ((S : Int) != (sumN (l.take 33) : Int)) = true := by simp; omega
      have HX := Lib.hid (show decM l = (zeroM, 9) by rw [HDEC.out, if_pos hsm])
      clear hsm
      go_wp2_with fail
      refine bodyPost_ret (v := .tuple #[.agg #[.int .u64 0, .int .u8 0, .int .i64 0, .int .i64 0, .int .i64 0], .int .i64 9]) ?_ rfl ?_
      · simp only [results]
        go_simp
      · rw [HX.out]
        exact ⟨rfl, grown_new HG3.out (Nat.le_refl _) (grown5 _ _ _ _ _ _ _)⟩
  · have hne' : ((G : Int) != (T : Int)) = true := by simp; omega
    have HX := Lib.hid (show decM l = (zeroM, 8) by rw [HDEC.out, if_pos hne])
    clear hne
    go_wp2_with fail
    refine bodyPost_ret (v := .tuple #[.agg #[.int .u64 0, .int .u8 0, .int .i64 0, .int .i64 0, .int .i64 0], .int .i64 8]) ?_ rfl ?_
    · simp only [results]
      go_simp
    · rw [HX.out]
      exact ⟨rfl, grown_new HG2.out (Nat.le_refl _) (grown5 _ _ _ _ _ _ _)⟩

end Go.Proofs.YtfmcbnoldcfcbaaDoor
