/-
  The plain configuration, by the document.
-/
import Derived.Test.YtomnhgcjdnhijaaCPlain
import Derived.Deep.DeepCutAuto
namespace Go.Proofs.Ytomnhgcjdnhijaa
open Go.RowKit
set_option maxRecDepth 100000

theorem ref_between4 (n : Int) (w : World) : Calls Try.prog 71 #[.int .i64 n, .int .i64 1, .int .i64 4] w fun r w' => r = .returned (.int .i64 (clamp4 n : Nat)) ∧ w' = w := by
  by_cases h1 : n < 1
  · go_enter Try.func71, Try.ntmps71
    go_wp2_with fail
    go_ret
    exact ⟨ret_i64VV (by unfold clamp4; split <;> (try split) <;> omega), rfl⟩
  · by_cases h2 : 4 < n
    · go_enter Try.func71, Try.ntmps71
      go_wp2_with fail
      go_ret
      exact ⟨ret_i64VV (by unfold clamp4; split <;> (try split) <;> omega), rfl⟩
    · go_enter Try.func71, Try.ntmps71
      go_wp2_with fail
      go_ret
      exact ⟨ret_i64VV (by unfold clamp4; split <;> (try split) <;> omega), rfl⟩
def CutI (I : Int) (w1 : World) (s : Value) (wx : World) : Prop := s = .int .i64 I ∧ wx = w1
/-- the same, and the row is the call's own -/
def PlainPost2 (w : World) (c : ConfP) (r : Ending) (w' : World) : Prop := ∃ a k, r = .returned (.agg #[.int .i64 c.sk, .int .i64 c.wa, .slice a c.D.length k, .int .u8 ((c.p 0 0).toNat : Int), .int .u8 ((c.p 0 1).toNat : Int), .int .u8 ((c.p 0 2).toNat : Int), .int .u8 ((c.p 0 3).toNat : Int), .int .u8 ((c.p 1 0).toNat : Int), .int .u8 ((c.p 1 1).toNat : Int), .int .u8 ((c.p 1 2).toNat : Int), .int .u8 ((c.p 1 3).toNat : Int), .int .u8 ((c.p 2 0).toNat : Int), .int .u8 ((c.p 2 1).toNat : Int), .int .u8 ((c.p 2 2).toNat : Int), .int .u8 ((c.p 2 3).toNat : Int), .int .u8 ((c.p 3 0).toNat : Int), .int .u8 ((c.p 3 1).toNat : Int), .int .u8 ((c.p 3 2).toNat : Int), .int .u8 ((c.p 3 3).toNat : Int), .int .i64 c.sg, .int .i64 c.od, .int .i64 c.rt, .int .i64 c.se, .int .i64 c.ca, .int .i64 c.bl, .int .i64 c.bs]) ∧ OwnR w' w.heap.size 98 6 (.slice a c.D.length k) (c.D.map declL) ∧ w.grownBy w' none
set_option maxHeartbeats 12800000 in
theorem ref_plain2 (x y i h : Int) (w : World) : Calls Try.prog 59 #[.int .i64 x, .int .i64 y, .int .i64 i, .int .i64 h] w (PlainPost2 w (plainFVV x y i h)) := by
  have hs := clamp4_le x
  have hv := clamp4_le y
  have hf : plainFVV x y i h = plainN (clamp4 x) (clamp4 y) (max i 0) (max h (max i 0)) := rfl
  rw [hf]
  clear hf
  have HX := Lib.hid (fun u => ref_between4 x u)
  have HY := Lib.hid (fun u => ref_between4 y u)
  generalize clamp4 x = s at *
  generalize clamp4 y = v at *
  obtain ⟨I, hI⟩ : ∃ I, max i 0 = I := ⟨_, rfl⟩
  rw [hI]
  obtain ⟨H, hH⟩ : ∃ H, max h I = H := ⟨_, rfl⟩
  rw [hH]
  have HII := Lib.hid (fun _ : True => hI); have HHH := Lib.hid (fun _ : True => hH)
  clear hI hH
  have HK := Lib.hid (fun u => ref_all2 (s : Int) (v : Int) u)
  obtain ⟨F, hF⟩ : ∃ F, keysF (s : Int) (v : Int) = F := ⟨_, rfl⟩
  rw [hF] at HK
  have HFF := Lib.hid (fun _ : True => hF)
  obtain ⟨C, hC⟩ : ∃ C, plainN s v I H = C := ⟨_, rfl⟩
  rw [hC]
  have hD := plainN_D s v I H
  rw [hC, hF] at hD
  have HCF := Lib.hid (fun _ : True => And.intro hC hD)
  clear hC hD
  have HS := Lib.hid hs; have HV := Lib.hid hv
  clear hs hv hF
  obtain ⟨w2, hw2, hz2, hc2, hg2, hn2⟩ := two_boxes w 62 [.int .i64 0, .int .i64 0, .slice none 0 0, .int .u8 0, .int .u8 0, .int .u8 0, .int .u8 0, .int .u8 0, .int .u8 0, .int .u8 0, .int .u8 0, .int .u8 0, .int .u8 0, .int .u8 0, .int .u8 0, .int .u8 0, .int .u8 0, .int .u8 0, .int .u8 0, .int .i64 0, .int .i64 0, .int .i64 0, .int .i64 0, .int .i64 0, .int .i64 0, .int .i64 0] (ConfCells s v none 0 0 (fun _ _ => 0) 0) rfl
  have HW2 := Lib.hid hw2; have HZ2 := Lib.hid hz2; have HC2 := Lib.hid hc2; have HG2 := Lib.hid hg2; have HN2 := Lib.hid hn2
  have c0 : w2.cell? ⟨w.heap.size + 1, 0, none⟩ = some (.int .i64 (s : Int)) := hc2.cell 0 rfl
  have c1 : w2.cell? ⟨w.heap.size + 1, 1, none⟩ = some (.int .i64 (v : Int)) := hc2.cell 1 rfl
  clear hw2 hz2 hc2 hg2 hn2
  go_enter Try.func59, Try.ntmps59
  go_upto_if 16 with (fail)
  go_cut [2] (fun s2 wx => CutI I (w.alloc (.cells #[.int .i64 0, .int .i64 0, .slice none 0 0, .int .u8 0, .int .u8 0, .int .u8 0, .int .u8 0, .int .u8 0, .int .u8 0, .int .u8 0, .int .u8 0, .int .u8 0, .int .u8 0, .int .u8 0, .int .u8 0, .int .u8 0, .int .u8 0, .int .u8 0, .int .u8 0, .int .i64 0, .int .i64 0, .int .i64 0, .int .i64 0, .int .i64 0, .int .i64 0, .int .i64 0] 62)) s2 wx)
  case first =>
    by_cases hi : i < 0
    · have hI := HII.out trivial
      have hI0 : I = 0 := by omega
      subst hI0
      clear hI
      go_wp2_with fail
      go_meet
      exact ⟨rfl, rfl⟩
    · have hI := HII.out trivial
      have hI0 : I = i := by omega
      subst hI0
      clear hI
      go_wp2_with fail
      go_meet
      exact ⟨rfl, rfl⟩
  case rest =>
  obtain ⟨rfl, rfl⟩ := hcut
  go_upto_if 19 with (fail)
  go_cut [3] (fun s3 wx => CutI H (w.alloc (.cells #[.int .i64 0, .int .i64 0, .slice none 0 0, .int .u8 0, .int .u8 0, .int .u8 0, .int .u8 0, .int .u8 0, .int .u8 0, .int .u8 0, .int .u8 0, .int .u8 0, .int .u8 0, .int .u8 0, .int .u8 0, .int .u8 0, .int .u8 0, .int .u8 0, .int .u8 0, .int .i64 0, .int .i64 0, .int .i64 0, .int .i64 0, .int .i64 0, .int .i64 0, .int .i64 0] 62)) s3 wx)
  case first =>
    by_cases hi : h < I
    · have hI := HHH.out trivial
      have hI0 : H = I := by omega
      subst hI0
      clear hI
      go_wp2_with fail
      go_meet
      exact ⟨rfl, rfl⟩
    · have hI := HHH.out trivial
      have hI0 : H = h := by omega
      subst hI0
      clear hI
      go_wp2_with fail
      go_meet
      exact ⟨rfl, rfl⟩
  case rest =>
  obtain ⟨rfl, rfl⟩ := hcut
  clear HII HHH
  go_wp2_with (first
    | (refine wpList_build_eq (o := ⟨some 25, _, _, _, _, _⟩) rfl 62 _ rfl [(0, .int .i64 (s : Int)), (1, .int .i64 (v : Int)), (4, .int .i64 8), (5, .int .i64 32), (6, .int .i64 2), (7, .int .i64 256), (8, .int .i64 65536), (9, .int .i64 256)] rfl _ (built_conf (s : Int) (v : Int)) ?_)
    | (refine wpList_store_row (o := ⟨none, .store 62 _ _, _, _, _, _⟩) rfl 62 _ _ rfl (w.heap.size + 1) (ConfCells s v none 0 0 (fun _ _ => 0) 0).toArray rfl rfl _ #[.int .i64 0, .int .i64 0, .slice none 0 0, .int .u8 0, .int .u8 0, .int .u8 0, .int .u8 0, .int .u8 0, .int .u8 0, .int .u8 0, .int .u8 0, .int .u8 0, .int .u8 0, .int .u8 0, .int .u8 0, .int .u8 0, .int .u8 0, .int .u8 0, .int .u8 0, .int .i64 0, .int .i64 0, .int .i64 0, .int .i64 0, .int .i64 0, .int .i64 0, .int .i64 0] (Box.new (w.alloc (.cells #[.int .i64 0, .int .i64 0, .slice none 0 0, .int .u8 0, .int .u8 0, .int .u8 0, .int .u8 0, .int .u8 0, .int .u8 0, .int .u8 0, .int .u8 0, .int .u8 0, .int .u8 0, .int .u8 0, .int .u8 0, .int .u8 0, .int .u8 0, .int .u8 0, .int .u8 0, .int .i64 0, .int .i64 0, .int .i64 0, .int .i64 0, .int .i64 0, .int .i64 0, .int .i64 0] 62)) _ [.int .i64 0, .int .i64 0, .slice none 0 0, .int .u8 0, .int .u8 0, .int .u8 0, .int .u8 0, .int .u8 0, .int .u8 0, .int .u8 0, .int .u8 0, .int .u8 0, .int .u8 0, .int .u8 0, .int .u8 0, .int .u8 0, .int .u8 0, .int .u8 0, .int .u8 0, .int .i64 0, .int .i64 0, .int .i64 0, .int .i64 0, .int .i64 0, .int .i64 0, .int .i64 0] _ (by simp)) info_conf rfl (one_of rfl) ?_; rw [HW2.out])
    | (go_at_call 71; (with_reducible refine (HX.out _).mono ?_); rintro r wx ⟨rfl, rfl⟩)
    | (go_at_call 71; (with_reducible refine (HY.out _).mono ?_); rintro r wy ⟨rfl, rfl⟩))
  refine (HK.out _).mono ?_
  rintro r w3 ⟨a3, c3, rfl, ⟨hl3, hf3⟩, hg3⟩
  have HL3 := Lib.hid hl3; have HF3 := Lib.hid hf3; have HG3 := Lib.hid hg3
  clear hl3 hf3 hg3 c0 c1
  have hF40 : F.length ≤ 40 := by rw [← HFF.out trivial, keysF_len]; exact countF_le _ _
  have HZ3 := Lib.hid (HZ2.out.grown HG3.out)
  have HC3 := Lib.hid (HC2.out.grown HG3.out)
  have HW3 := Lib.hid (grown_trans HG2.out HG3.out)
  have HB3 := Lib.hid (show w.heap.size + 2 ≤ w3.heap.size by have h1 := HN2.out; have h2 := HG3.out.size; omega)
  have HF3 := Lib.hid (show ∀ x, a3 = some x → w.heap.size + 2 ≤ x.block ∧ (F ≠ [] → x.block < w3.heap.size) from fun x hx => ⟨by have h1 := HF3.out x hx; have h2 := HN2.out; omega, fun hne => HL3.out.below hne x hx⟩)
  clear HW2 HZ2 HC2 HG2 HG3 HN2 HK
  go_wp2_with fail
  go_loopw [11] (fun iv wr => PRel w a3 F [.int .i64 0, .int .i64 0, .slice none 0 0, .int .u8 0, .int .u8 0, .int .u8 0, .int .u8 0, .int .u8 0, .int .u8 0, .int .u8 0, .int .u8 0, .int .u8 0, .int .u8 0, .int .u8 0, .int .u8 0, .int .u8 0, .int .u8 0, .int .u8 0, .int .u8 0, .int .i64 0, .int .i64 0, .int .i64 0, .int .i64 0, .int .i64 0, .int .i64 0, .int .i64 0] s v I H w3.heap.size iv wr) (fun iv _ => F.length - (intOf iv).toNat)
  case atStart => exact ⟨0, none, 0, Nat.zero_le _, rfl, HZ3.out, HC3.out, OwnR.nil _ _ _ _, HL3.out, HW3.out, Nat.le_refl _⟩
  case round =>
    obtain ⟨j, a, k, hj, rfl, hbz, hbc, how, hkl, hg, hB⟩ := hrel
    have HBZ := Lib.hid hbz; have HBC := Lib.hid hbc; have HOW := Lib.hid how; have HKL := Lib.hid hkl; have HG := Lib.hid hg; have HB := Lib.hid hB
    clear hbz how hkl hg hB
    by_cases hlt : j < F.length
    · obtain ⟨b, o, ea, k0, k1, k2⟩ := HKL.out j hlt
      have htk := List.take_succ_eq_append_getElem hlt
      obtain ⟨y, hy⟩ : ∃ y, F[j] = y := ⟨_, rfl⟩
      rw [hy] at k0 k1 k2 htk
      have HTK := Lib.hid (fun _ : True => htk)
      obtain ⟨y0, hy0⟩ : ∃ t, y.1.toNat = t := ⟨_, rfl⟩
      obtain ⟨y1, hy1⟩ : ∃ t, y.2.1.toNat = t := ⟨_, rfl⟩
      obtain ⟨y2, hy2⟩ : ∃ t, y.2.2.toNat = t := ⟨_, rfl⟩
      rw [hy0] at k0
      rw [hy1] at k1
      rw [hy2] at k2
      have HBO := Lib.hid (HF3.out _ ea)
      subst ea
      have i0 : (0 : Int) ≤ (j : Int) := by omega
      have i1 : (j : Int) < (F.length : Int) := by omega
      have cs : ∀ o1, (wr.alloc o1).cell? ⟨w.heap.size + 1, 2, none⟩ = some (.slice a j k) := fun o1 => (hbc.alloc o1).cell 2 rfl
      have k3 : ∀ o1, (wr.alloc o1).cell? ⟨b, o + j * 3, none⟩ = some (.int .u8 (y0 : Int)) := fun o1 => grown_cell (World.grownBy_alloc wr o1 none) k0
      have HDY := (show declL (mkD I H y) = [.int .u8 (y0 : Int), .int .u8 (y1 : Int), .int .u8 (y2 : Int), .int .i64 0, .int .i64 (if y0 = 1 then I else 0), .int .i64 H] by simp only [declL, mkD, hy0, hy1, hy2])
      have HNX := Lib.hid (fun _ : True => show ((F.take (j + 1)).map (mkD I H)).map declL = ((F.take j).map (mkD I H)).map declL ++ [declL (mkD I H y)] by rw [HTK.out trivial, List.map_append, List.map_append]; rfl)
      have hLL : (((F.take j).map (mkD I H)).map declL).length = j := by rw [List.length_map, List.length_map, List.length_take]; omega
      obtain ⟨LL, hL⟩ : ∃ LL, ((F.take j).map (mkD I H)).map declL = LL := ⟨_, rfl⟩
      rw [hL] at HNX hLL HOW
      have HNE := Lib.hid (show F ≠ [] by intro e; rw [e] at hlt; exact absurd hlt (by simp))
      have HF4 := Lib.hid (show ∀ x, some (⟨b, o, none⟩ : Addr) = some x → w.heap.size + 2 ≤ x.block ∧ x.block < w3.heap.size from fun x hx => ⟨(HF3.out x hx).1, (HF3.out x hx).2 HNE.out⟩)
      have HJ := Lib.hid (show j ≤ 40 by omega)
      clear hy0 hy1 hy2 hy hbc htk hL
      by_cases hk1 : y0 = 1
      · have hq : ((y0 : Int) == 1) = true := by rw [hk1]; rfl
        rw [if_pos hk1] at HDY
        have HDZ := Lib.hid (fun _ : True => HDY)
        clear hk1 HDY
        go_wp2_with (
          at_builtin
          refine wpList_append_elem rfl _ _ 58 98 rfl Try.underlying58 _ 6 32 info_decl rfl (by decide) (HOW.out.grown (growAVV _ _ (World.grownBy_alloc wr _ none))) rfl (heap_new_at _ _ _ (by simp)) rfl rfl (fun u hu => by simp only [List.mem_cons, List.not_mem_nil, or_false] at hu; rcases hu with rfl | rfl | rfl | rfl | rfl | rfl <;> rfl) (by have := HJ.out; omega) (by have := HJ.out; omega) (Nat.le_trans HB.out (growAVV _ _ (World.grownBy_alloc wr _ none)).size) ?_
          intro g' cap wc hoc hgc hkc
          rw [hLL] at hoc
          obtain ⟨hcl, hfr, p1, p2, p3, p4, p5, p6⟩ := plain_step HBZ.out HBC.out HOW.out HKL.out HG.out HB.out HB3.out HF4.out (growAVV _ _ (World.grownBy_alloc wr _ none)) hgc hoc _ (ConfCells.a_set s v a j k (fun _ _ => 0) 0 (some ⟨g', 0, none⟩) (j + 1) cap) rfl
          rw [← HDZ.out trivial, ← HNX.out trivial] at p3
          have PP := Lib.hid (show PRel w (some ⟨b, o, none⟩) F [.int .i64 0, .int .i64 0, .slice none 0 0, .int .u8 0, .int .u8 0, .int .u8 0, .int .u8 0, .int .u8 0, .int .u8 0, .int .u8 0, .int .u8 0, .int .u8 0, .int .u8 0, .int .u8 0, .int .u8 0, .int .u8 0, .int .u8 0, .int .u8 0, .int .u8 0, .int .i64 0, .int .i64 0, .int .i64 0, .int .i64 0, .int .i64 0, .int .i64 0, .int .i64 0] s v I H w3.heap.size (.int .i64 ((j : Int) + 1)) (wc.setCell ⟨w.heap.size + 1, 2, none⟩ (.slice (some ⟨g', 0, none⟩) (j + 1) cap)) from ⟨j + 1, some ⟨g', 0, none⟩, cap, by omega, by go_num, p1, p2, p3, p4, p5, p6⟩)
          clear hoc hgc hkc p1 p2 p3 p4 p5 p6)
        go_roundw
        all_goals first
          | (exact PP.out)
          | (simp [intOf]; omega)
      · have hq : ((y0 : Int) == 1) = false := by rw [beq_eq_false_iff_ne]; omega
        rw [if_neg hk1] at HDY
        have HDZ := Lib.hid (fun _ : True => HDY)
        clear hk1 HDY
        go_wp2_with (
          at_builtin
          refine wpList_append_elem rfl _ _ 58 98 rfl Try.underlying58 _ 6 32 info_decl rfl (by decide) (HOW.out.grown (growAVV _ _ (World.grownBy_alloc wr _ none))) rfl (heap_new_at _ _ _ (by simp)) rfl rfl (fun u hu => by simp only [List.mem_cons, List.not_mem_nil, or_false] at hu; rcases hu with rfl | rfl | rfl | rfl | rfl | rfl <;> rfl) (by have := HJ.out; omega) (by have := HJ.out; omega) (Nat.le_trans HB.out (growAVV _ _ (World.grownBy_alloc wr _ none)).size) ?_
          intro g' cap wc hoc hgc hkc
          rw [hLL] at hoc
          obtain ⟨hcl, hfr, p1, p2, p3, p4, p5, p6⟩ := plain_step HBZ.out HBC.out HOW.out HKL.out HG.out HB.out HB3.out HF4.out (growAVV _ _ (World.grownBy_alloc wr _ none)) hgc hoc _ (ConfCells.a_set s v a j k (fun _ _ => 0) 0 (some ⟨g', 0, none⟩) (j + 1) cap) rfl
          rw [← HDZ.out trivial, ← HNX.out trivial] at p3
          have PP := Lib.hid (show PRel w (some ⟨b, o, none⟩) F [.int .i64 0, .int .i64 0, .slice none 0 0, .int .u8 0, .int .u8 0, .int .u8 0, .int .u8 0, .int .u8 0, .int .u8 0, .int .u8 0, .int .u8 0, .int .u8 0, .int .u8 0, .int .u8 0, .int .u8 0, .int .u8 0, .int .u8 0, .int .u8 0, .int .u8 0, .int .i64 0, .int .i64 0, .int .i64 0, .int .i64 0, .int .i64 0, .int .i64 0, .int .i64 0] s v I H w3.heap.size (.int .i64 ((j : Int) + 1)) (wc.setCell ⟨w.heap.size + 1, 2, none⟩ (.slice (some ⟨g', 0, none⟩) (j + 1) cap)) from ⟨j + 1, some ⟨g', 0, none⟩, cap, by omega, by go_num, p1, p2, p3, p4, p5, p6⟩)
          clear hoc hgc hkc p1 p2 p3 p4 p5 p6)
        go_roundw
        all_goals first
          | (exact PP.out)
          | (simp [intOf]; omega)
    · have how := HOW.out
      rw [List.take_of_length_le (by omega)] at how
      obtain rfl : j = F.length := by omega
      obtain ⟨hDn, hDL⟩ := how.decls
      have HDL := Lib.hid (fun _ : True => hDL)
      have HOW := Lib.hid how
      obtain ⟨LL, hL⟩ : ∃ LL, (F.map (mkD I H)).map declL = LL := ⟨_, rfl⟩
      rw [hL] at HOW
      have HLL := Lib.hid (fun _ : True => hL)
      have hc4 : ConfCells s v a F.length k (fun _ _ => 0) 0 = ConfCells s v a F.length k (prioF 0 v 0) 0 := by rw [prioF_zero]
      rw [hc4] at HBC hbc
      have c0 : wr.cell? ⟨w.heap.size + 1, 0, none⟩ = some (.int .i64 (s : Int)) := hbc.cell 0 rfl
      obtain ⟨n, hn⟩ : ∃ n, F.length = n := ⟨_, rfl⟩
      have HNN := Lib.hid (fun _ : True => hn)
      rw [hn] at HOW HBC hbc hj
      simp only [hn]
      clear hn
      clear hDn hDL how hL hc4 hbc hlt HKL hj
      have hs4 := HS.out.2
      have hv4 := HV.out.2
      go_wp2_with fail
      go_loopw [13] (fun iv wr => QRel w [.int .i64 0, .int .i64 0, .slice none 0 0, .int .u8 0, .int .u8 0, .int .u8 0, .int .u8 0, .int .u8 0, .int .u8 0, .int .u8 0, .int .u8 0, .int .u8 0, .int .u8 0, .int .u8 0, .int .u8 0, .int .u8 0, .int .u8 0, .int .u8 0, .int .u8 0, .int .i64 0, .int .i64 0, .int .i64 0, .int .i64 0, .int .i64 0, .int .i64 0, .int .i64 0] s v a n k w3.heap.size LL iv wr) (fun iv _ => s - (intOf iv).toNat)
      case atStart => exact ⟨0, Nat.zero_le _, rfl, HBZ.out, HBC.out, HOW.out, HG.out⟩
      case round =>
        clear c0
        obtain ⟨w9, hw9⟩ : ∃ w9, w9 = wr := ⟨_, rfl⟩
        subst hw9
        obtain ⟨m, hm, rfl, hbz, hbc, how, hg⟩ := hrel
        have HBZ := Lib.hid hbz; have HBC := Lib.hid hbc; have HOW := Lib.hid how; have HG := Lib.hid hg
        have c0 : w9.cell? ⟨w.heap.size + 1, 0, none⟩ = some (.int .i64 (s : Int)) := hbc.cell 0 rfl
        by_cases hlt : m < s
        · clear hbz hbc how hg
          go_wp2_with fail
          clear c0
          go_loopw [14] (fun iv wr => QRel3 w [.int .i64 0, .int .i64 0, .slice none 0 0, .int .u8 0, .int .u8 0, .int .u8 0, .int .u8 0, .int .u8 0, .int .u8 0, .int .u8 0, .int .u8 0, .int .u8 0, .int .u8 0, .int .u8 0, .int .u8 0, .int .u8 0, .int .u8 0, .int .u8 0, .int .u8 0, .int .i64 0, .int .i64 0, .int .i64 0, .int .i64 0, .int .i64 0, .int .i64 0, .int .i64 0] s v m a n k w3.heap.size LL iv wr) (fun iv _ => v - (intOf iv).toNat)
          case atStart => exact ⟨0, Nat.zero_le _, rfl, HBZ.out, HBC.out, HOW.out, HG.out⟩
          case round =>
            obtain ⟨q, hq, rfl, hbz, hbc, how, hg⟩ := hrel
            have c1 : wr.cell? ⟨w.heap.size + 1, 1, none⟩ = some (.int .i64 (v : Int)) := hbc.cell 1 rfl
            by_cases hlq : q < v
            · have hp1 := hbc.look (3 + m * 4 + q)
              rw [ConfCells.p_get s v a n k (prioF m v q) 0 (show m < 4 by omega) (show q < 4 by omega)] at hp1
              have hp2 := hbc.open
              have hst := ConfCells.p_set s v a n k (prioF m v q) 0 (show m < 4 by omega) (show q < 4 by omega) (UInt8.ofNat q)
              rw [prioF_step] at hst
              have PP := Lib.hid (prio_step hbz hbc how hg HB3.out hst)
              have i0 : (m : Int) < 4 := by omega
              have i1 : (q : Int) < 4 := by omega
              have hu8 := u8wrap q
              obtain ⟨old, hold⟩ : ∃ t, (prioF m v q m q).toNat = t := ⟨_, rfl⟩
              rw [hold] at hp1
              clear hbz hbc how hg hst hold
              go_wp2_with fail
              go_roundw
              all_goals first
                | (exact ⟨q + 1, by omega, by go_num, PP.out.1, PP.out.2.1, PP.out.2.2.1, PP.out.2.2.2⟩)
                | (simp [intOf]; omega)
            · obtain rfl : q = v := by omega
              rw [prioF_row] at hbc
              have PP := Lib.hid (And.intro hbz (And.intro hbc (And.intro how hg)))
              clear hbz hbc how hg
              go_wp2_with fail
              go_roundw
              all_goals first
                | (exact ⟨m + 1, by omega, by go_num, PP.out.1, PP.out.2.1, PP.out.2.2.1, PP.out.2.2.2⟩)
                | (simp [intOf]; omega)
        · obtain rfl : m = s := by omega
          have HRG := Lib.hid (range_conf hbc)
          clear hbz hbc how hg hlt hm
          have hD := (HCF.out trivial).2
          have hdl : C.D.length = n := by rw [hD, List.length_map]; exact HNN.out trivial
          have hll : LL = C.D.map declL := by rw [← HLL.out trivial, hD]
          obtain ⟨z, hz⟩ : ∃ z : Nat, needF (plain0 m v I H 0) = z := ⟨_, rfl⟩
          have HNE := Lib.hid (fun u => plainN_rneed m v I H a n k z hz u)
          have HFIN := Lib.hid (fun _ : True => plainN_cells m v I H a n k z hz C (HCF.out trivial).1.symm)
          have HDL := Lib.hid (fun _ : True => hdl)
          have HLL := Lib.hid (fun _ : True => hll)
          have HB0 := Lib.hid (HBC.out)
          clear hdl hll hz HFF hD HCF
          go_wp2_with (refine wpList_load_conf (o := ⟨some 76, _, _, _, _, _⟩) rfl _ rfl (w.heap.size + 1) _ rfl HB0.out (ConfCells.len ..) ?_)
          go_wp2_with fail
          refine (HNE.out _).mono ?_
          rintro r w10 ⟨rfl, hg10⟩
          have hb10 := HBC.out.grown hg10
          have hc10 : w10.cell? ⟨w.heap.size + 1, 25, none⟩ = some (.int .i64 0) := hb10.cell 25 rfl
          have ho10 := hb10.open
          have PP := Lib.hid (prio_step (HBZ.out.grown hg10) hb10 (HOW.out.grown hg10) (grown_trans HG.out hg10) HB3.out (ConfCells.b_set m v a n k (prioF m v 0) 0 z))
          have HP2 := Lib.hid PP.out.2.1
          have HP1 := Lib.hid PP.out.1
          clear hg10 hb10
          go_wp2_with (first
            | (refine wpList_load_conf (o := ⟨some 79, _, _, _, _, _⟩) rfl _ rfl (w.heap.size + 1) _ rfl HP2.out (ConfCells.len ..) ?_)
            | (refine wpList_store_conf (o := ⟨none, .store 62 _ _, _, _, _, _⟩) rfl _ _ rfl w.heap.size _ _ rfl rfl HP1.out (ConfCells.len ..) rfl (ConfCells.one ..) ?_))
          refine bodyPost_conf (p := 8) rfl ?_ (Box.row HP1.out) (ConfCells.len ..) rfl ?_
          · go_simp
          have how := PP.out.2.2.1.kept (grown_setRow _ w.heap.size (ConfCells m v a n k (prioF m v 0) z).toArray) (.inr fun e => by have h1 := (PP.out.2.2.1.lt _ e).1; have h2 := HB3.out; omega)
          rw [HLL.out trivial] at how
          refine ⟨a, k, ?_, ?_, grown_new PP.out.2.2.2 (Nat.le_refl _) (grown_setRow _ _ _)⟩
          · rw [HDL.out trivial]
            exact HFIN.out trivial
          · rw [HDL.out trivial]
            exact ⟨how.1, Joins.ownsRow_le how.2 (by have := HB3.out; omega)⟩
theorem ref_plain (x y i h : Int) (w : World) : Calls Try.prog 59 #[.int .i64 x, .int .i64 y, .int .i64 i, .int .i64 h] w (PlainPost w (plainFVV x y i h)) :=
  (ref_plain2 x y i h w).mono (by rintro r w' ⟨a, k, h1, h2, h3⟩; exact ⟨a, k, h1, h2.decls.2, h3⟩)

end Go.Proofs.Ytomnhgcjdnhijaa
