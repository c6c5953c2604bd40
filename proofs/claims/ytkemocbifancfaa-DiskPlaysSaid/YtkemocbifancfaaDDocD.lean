/-
  A disk and the document's behind the same acts.
-/
import Derived.Test.YtkemocbifancfaaDDocC
import Derived.Deep.DeepCutAuto
namespace Go.Proofs.Ytkemocbifancfaa
open Go.RowKit
set_option maxRecDepth 100000

theorem bytes_zero0 (s f : Nat) (l : List UInt8) : bytesF s f l 0 = l := by
  unfold bytesF fromQ
  split
  · rename_i h
    exact (List.eq_nil_of_length_eq_zero (by omega)).symm
  · rw [show (max (0 : Int) ((f * s : Nat) : Int)).toNat - f * s = 0 by omega]
    rfl
def SameCut (w : World) (s : Value) (wx : World) : Prop := s = .bool false ∧ w.grownBy wx none
def SameRel (w : World) (nb : Nat) (i : Value) (wr : World) : Prop := ∃ k : Nat, k ≤ nb ∧ i = .int .i64 (k : Int) ∧ w.grownBy wr none
theorem same_le {k nb : Nat} (h : (k : Int) < (nb : Int)) : k + 1 ≤ nb := by omega
theorem same_lt {k nb : Nat} (h : (k : Int) < (nb : Int)) : nb - (intOf (.int .i64 ((k + 1 : Nat) : Int))).toNat < nb - (intOf (.int .i64 (k : Int))).toNat := by simp only [intOf]; omega
theorem same_w {k nb : Nat} (h : (k : Int) < (nb : Int)) (hn : nb ≤ 1024) : wrap64 ((k : Int) + 1) = ((k + 1 : Nat) : Int) := by unfold wrap64; omega
theorem same_w2 {k nb : Nat} (h : (k : Int) < (nb : Int)) (hn : nb ≤ 1024) : wrap64 ((k + 1 : Nat) : Int) = ((k + 1 : Nat) : Int) := by unfold wrap64; omega
set_option maxHeartbeats 3200000 in
theorem ref9_same {w : World} {D : DId} {X : Nat → Prop} {nb sz N s mo : Nat} {S : FaceV} {T Tr : List WriteV} {va : Option Addr} {vc : Nat} {ta : Option Addr} {tn tc : Nat} {qa : Option Addr} {qn qc : Nat} {loc : List Loc} (hD : DiskAt w D nb sz N s mo S T) (h : RefDisk w X nb sz N s S Tr va vc ta tn tc qa qn qc loc) (hX : ∀ k, w.heap.size ≤ k → ¬ X k) (most : Int) (hT : Tr.length ≤ 1000) (hbig : endV s S + totB Tr ≤ 1000000000) (he : seenV nb sz s S Tr = seenV nb sz s S T) (hl : Tr.length = T.length) :
    Calls Try.prog 24 #[.pointer (some ⟨D.d, 0, none⟩), .agg #[.slice va nb vc, .int .i64 (sz : Int), .slice ta tn tc, .int .i64 ((S.f * s : Nat) : Int), .int .i64 (s : Int), .slice qa qn qc, .int .i64 most]] w (fun r w' => r = .returned (.bool true) ∧ w.grownBy w' none) := by
  have hg1 := World.grownBy_alloc w (.cells #[.slice va nb vc, .int .i64 (sz : Int), .slice ta tn tc, .int .i64 ((S.f * s : Nat) : Int), .int .i64 (s : Int), .slice qa qn qc, .int .i64 most] 53) none
  have b3 := Box.new w 53 [.slice va nb vc, .int .i64 (sz : Int), .slice ta tn tc, .int .i64 ((S.f * s : Nat) : Int), .int .i64 (s : Int), .slice qa qn qc, .int .i64 most] w.heap.size rfl
  obtain ⟨w1, hw1⟩ : ∃ w1, w.alloc (.cells #[.slice va nb vc, .int .i64 (sz : Int), .slice ta tn tc, .int .i64 ((S.f * s : Nat) : Int), .int .i64 (s : Int), .slice qa qn qc, .int .i64 most] 53) = w1 := ⟨_, rfl⟩
  rw [hw1] at hg1 b3
  have hs : 1 ≤ s := by have := h.face.seg; omega
  have hend := seenV_end nb sz s hs Tr S
  have hseg := h.face.seg
  have hc := ref_seen (h.grown hg1) (fun k hk => hX k (Nat.le_trans hg1.size hk)) most hT (by omega)
  rw [he] at hc hend
  obtain ⟨R, hR⟩ : ∃ R, seenV nb sz s S T = R := ⟨_, rfl⟩
  rw [hR] at hc hend
  unfold endV at hend hbig
  obtain ⟨L, f, l⟩ := R
  simp only at hend
  have hqn : T.length = qn := by rw [← hl]; exact h.len
  have D1 := Lib.hid (fun u (hu : w1.grownBy u none) => disk_blocks (hD.grown (grown_trans hg1 hu)))
  have D2 := Lib.hid (fun u (hu : w1.grownBy u none) => disk_size (hD.grown (grown_trans hg1 hu)))
  have D3 := Lib.hid (fun u (hu : w1.grownBy u none) => disk_pending (hD.grown (grown_trans hg1 hu)))
  have D4 := Lib.hid (fun u (hu : w1.grownBy u none) q => disk_block (hD.grown (grown_trans hg1 hu)) q)
  have D5 := Lib.hid (fun u (hu : w1.grownBy u none) => disk_first (hD.grown (grown_trans hg1 hu)) (by rw [hR]; simp only; omega))
  have D6 := Lib.hid (fun u (hu : w1.grownBy u none) => disk_end (hD.grown (grown_trans hg1 hu)))
  have D7 := Lib.hid (fun u (hu : w1.grownBy u none) => disk_segs (hD.grown (grown_trans hg1 hu)))
  have D8 := Lib.hid (fun u (hu : w1.grownBy u none) => disk_bytes (hD.grown (grown_trans hg1 hu)) 0 (by rw [hR]; simp only; omega) (by omega))
  rw [hR] at D4 D5 D6 D7 D8
  rw [show (FaceV.mk L f l).L = L from rfl] at D4
  rw [show (FaceV.mk L f l).f = f from rfl] at D5 D6 D8
  rw [show (FaceV.mk L f l).l = l from rfl] at D6 D7 D8
  rw [bytes_zero0] at D8
  rw [hqn] at D3
  have HNB := Lib.hid h.face.nb_le
  have HC := Lib.hid hc
  have HG := Lib.hid hg1
  have HW := Lib.hid (fun _ : True => hw1)
  obtain ⟨Fs, hFs⟩ : ∃ Fs, S.f * s = Fs := ⟨_, rfl⟩
  rw [hFs] at b3 HC HW ⊢
  obtain ⟨Gs, hGs⟩ : ∃ Gs, f * s = Gs := ⟨_, rfl⟩
  rw [hGs] at D5 D6 hend
  have HGS := Lib.hid (fun _ : True => hGs)
  have B3 := Lib.hid b3
  have y3 := b3.look
  obtain ⟨d, hd⟩ : ∃ d, D.d = d := ⟨_, rfl⟩
  rw [hd] at D1 D2 D3 D4 D5 D6 D7 D8 ⊢
  have HEB := Lib.hid (fun _ : True => show Gs + l.length ≤ 1000000000 by omega)
  have HSG := Lib.hid hseg
  clear hD h hX hT hbig he hl hg1 hw1 b3 hs hend hseg hc hR hqn hFs hGs hd
  go_enter Try.func24, Try.ntmps24
  go_wp2_with fail
  rw [HW.out trivial]
  go_wp2_with fail
  refine HC.out.mono ?_
  rintro r w2 ⟨va2, vc2, ta2, tn2, tc2, rfl, hf, hg2⟩
  rw [show (FaceV.mk L f l).f = f from rfl, HGS.out trivial]
  obtain ⟨w3, hw3, hg3, hs3, b6, b7⟩ := two_boxes w2 48 50 [.slice va2 nb vc2, .int .i64 (sz : Int)] [.slice ta2 tn2 tc2, .int .i64 (Gs : Int), .int .i64 (s : Int)]
  have HW3 := Lib.hid (fun _ : True => hw3)
  have HF := Lib.hid (hf.grown hg3)
  have hg13 := grown_trans hg2 hg3
  have HG13 := Lib.hid hg13
  have E1 := Lib.hid (fun u (hu : w3.grownBy u none) => D1.out u (grown_trans hg13 hu))
  have E2 := Lib.hid (fun u (hu : w3.grownBy u none) => D2.out u (grown_trans hg13 hu))
  have E3 := Lib.hid (fun u (hu : w3.grownBy u none) => D3.out u (grown_trans hg13 hu))
  have E4 := Lib.hid (fun u (hu : w3.grownBy u none) q => D4.out u (grown_trans hg13 hu) q)
  have E5 := Lib.hid (fun u (hu : w3.grownBy u none) => D5.out u (grown_trans hg13 hu))
  have E6 := Lib.hid (fun u (hu : w3.grownBy u none) => D6.out u (grown_trans hg13 hu))
  have E7 := Lib.hid (fun u (hu : w3.grownBy u none) => D7.out u (grown_trans hg13 hu))
  have E8 := Lib.hid (fun u (hu : w3.grownBy u none) => D8.out u (grown_trans hg13 hu))
  have htl : l.length = tn2 := hf.tape.len
  rw [htl] at E6 E7 HEB
  have E9 := Lib.hid (fun u => ref_end ta2 tn2 tc2 Gs s u (by have := HEB.out trivial; omega))
  have E10 := Lib.hid (fun u => ref_segs ta2 tn2 tc2 Gs s u HSG.out (by have := HEB.out trivial; omega))
  obtain ⟨en, hen⟩ : ∃ en, Gs + tn2 = en := ⟨_, rfl⟩
  obtain ⟨sn, hsn⟩ : ∃ sn, nSeg s tn2 = sn := ⟨_, rfl⟩
  rw [hen] at E6 E9
  rw [hsn] at E7 E10
  have B3' := Lib.hid (B3.out.grown hg13)
  have k3 := look_atB B3'.out
  have k5 := look_atB b6
  have k6 := look_atB b7
  have kS := str_ofB (c := tc2) HF.out.tape.rb htl
  have hS0 : w3.grownBy w3.drew none := grown_drew1 _
  have hS1 : w3.grownBy w3 none := World.grownBy.refl _ _
  clear hf hg2 hg3 hw3 hs3 b6 b7 HC hg13 y3 htl hen hsn D1 D2 D3 D4 D5 D6 D7 D8
  go_wp2_with fail
  rw [HW3.out trivial]
  go_cut [33] (fun s33 wx => SameCut w3 s33 wx)
  case first =>
    go_region_held_law (fun w' => w3.grownBy w' none)
      (with_reducible (first | assumption | exact grown_drew (by assumption)))
      (first
        | (go_at_call 27; refine (E1.out _ (by with_reducible assumption)).mono ?_; rintro e wa ⟨rfl, rfl⟩)
        | (go_at_call 28; refine (E2.out _ (by with_reducible assumption)).mono ?_; rintro e wb ⟨rfl, rfl⟩)
        | (go_at_call 16; refine (E3.out _ (by with_reducible assumption)).mono ?_; rintro e wc ⟨rfl, rfl⟩))
    all_goals (
      go_wp2_with fail
      go_meet
      exact ⟨rfl, by with_reducible (first | assumption | exact grown_drew (by assumption))⟩)
  case rest =>
  obtain ⟨rfl, hgc⟩ := hcut
  have HGC := Lib.hid hgc
  have y5 := fun i => k5 _ hgc i
  clear hgc
  go_wp2_with fail
  clear y5
  go_loopw [7] (fun i wr => SameRel w3 nb i wr) (fun i _ => nb - (intOf i).toNat)
  case atStart => exact ⟨0, Nat.zero_le _, rfl, HGC.out⟩
  case round =>
    obtain ⟨k, hk, rfl, hg⟩ := hrel
    have HGR := Lib.hid hg
    have y5 := fun i => k5 _ hg i
    by_cases hlt : (k : Int) < (nb : Int)
    · have HLT := Lib.hid (fun _ : True => And.intro (same_le hlt) (same_lt hlt))
      have HLW := Lib.hid (fun _ : True => And.intro (same_w hlt HNB.out) (same_w2 hlt HNB.out))
      obtain ⟨bs, hv, hmt⟩ := HF.out.vol
      obtain ⟨a0, n0, c0, hve, hbn, hrv, hbz⟩ := hv
      cases hve
      have hkb : k < bs.length := by rw [hbn]; exact same_le hlt
      have hbk := hmt.2 k hkb
      obtain ⟨b, o, rfl, a', n', c', hcell, hln, hrb⟩ := hrv.at k hkb
      rw [hbk] at hln hrb
      have hE4 := fun u (hu : w3.grownBy u none) => E4.out u hu (k : Nat)
      rw [blockOf_in (same_le hlt)] at hE4
      obtain ⟨q, hq⟩ : ∃ q, blk sz k L = q := ⟨_, rfl⟩
      simp only [hq] at hln hrb hE4
      have kV := str_ofB (c := c') hrb hln
      have kC : ∀ u, w3.grownBy u none → u.cell? ⟨b, o + k, none⟩ = some (.slice a' n' c') := fun u hu => grown_cell hu hcell
      have HE4 := Lib.hid hE4
      have i0 : (0 : Int) ≤ (k : Int) := Int.natCast_nonneg _
      clear hrb hln hbk hbn hbz hrv hmt hkb hcell hE4 hq y5 hS1 hS0
      have hS1 := hg
      have hS0 := grown_drew hg
      have y5 := fun i => k5 _ hg i
      go_wp2_with fail
      go_cut [51] (fun s51 wx => SameCut w3 s51 wx)
      case first =>
        go_region_held_law (fun w' => w3.grownBy w' none)
          (with_reducible (first | assumption | exact grown_drew (by assumption)))
          (first
            | (go_at_call 19; refine (HE4.out _ (by with_reducible assumption)).mono ?_; rintro e w10 ⟨a5, n5, c5, rfl, hn5, hr5, _, hg5⟩; have hS5 := keepT hg5 (by with_reducible assumption); have kR := str_ofB (c := c5) hr5 hn5; have hR := World.grownBy.refl w10 none))
        all_goals (
          go_wp2_with fail
          go_meet
          exact ⟨rfl, hS5⟩)
      case rest =>
        obtain ⟨rfl, hg9⟩ := hcut
        have HG9 := Lib.hid hg9
        clear hg9 hS0 hS1 y5 kV kC i0 hlt hg
        go_wp2_with fail
        have hw := HLW.out trivial
        first
          | (rw [hw.1]; exact ⟨⟨k + 1, (HLT.out trivial).1, rfl, HG9.out⟩, (HLT.out trivial).2⟩)
          | (rw [hw.2]; exact ⟨⟨k + 1, (HLT.out trivial).1, rfl, HG9.out⟩, (HLT.out trivial).2⟩)
    · clear hS1 hS0
      have hS1 := hg
      have hS0 := grown_drew hg
      go_wp2_with fail
      go_region_held_law (fun w' => w3.grownBy w' none) (with_reducible (first | assumption | exact grown_drew (by assumption) | exact keepA (by assumption))) (first
        | (go_at_call 29; refine (E5.out _ (by with_reducible assumption)).mono ?_; rintro r wa ⟨rfl, hga⟩; have hSa := keepT hga (by with_reducible assumption))
        | (go_at_call 30; refine (E6.out _ (by with_reducible assumption)).mono ?_; rintro r wb ⟨rfl, rfl⟩)
        | (go_at_call 31; refine (E7.out _ (by with_reducible assumption)).mono ?_; rintro r wd ⟨rfl, rfl⟩)
        | (go_at_call 12; refine (E8.out _ (by with_reducible assumption)).mono ?_; rintro r we ⟨v8, rfl, ho8, hg8⟩; obtain ⟨a8, n8, c8, rfl, hn8⟩ := ho8.len; have hS8 := keepT hg8 (by with_reducible assumption); have k8 := str_ofB (c := c8) (RB.of_own ho8) hn8; have hr8 := World.grownBy.refl we none; clear ho8 hn8)
        | (go_at_call 47; refine (E9.out _).mono ?_; rintro r wf ⟨rfl, hgf⟩; have hSf := keepT hgf (by with_reducible assumption))
        | (go_at_call 48; refine (E10.out _).mono ?_; rintro r wg ⟨rfl, hgg⟩; have hSg := keepT hgg (by with_reducible assumption)))
      all_goals (
        go_wp2_with fail
        go_ret
        exact ⟨rfl, grown_trans HG.out (grown_trans HG13.out (by with_reducible assumption))⟩)

theorem match_zero {nb sz N : Nat} (hN : nb * sz = N) : Match nb sz (List.replicate nb (List.replicate sz 0)) (List.replicate N 0) :=
  ⟨List.length_replicate, fun i hi => by
    rw [List.length_replicate] at hi
    rw [List.getElem_replicate, blk_zero (mul_step hN hi)]⟩
set_option maxHeartbeats 3200000 in
theorem ref9_new (x y z : Int) (m : Nat) (hm : m ≤ 1048576) (X : Nat → Prop) (w : World) (hX : ∀ k, w.heap.size ≤ k → ¬ X k) (nb sz s N : Nat) (h1 : clampN x 1024 = nb) (h2 : clampN y 4096 = sz) (h3 : clampS z = s) (h4 : nb * sz = N) :
    Calls Try.prog 21 #[.int .i64 x, .int .i64 y, .int .i64 z, .int .i64 (m : Int)] w (RefDPost w X nb sz N s ⟨List.replicate N 0, 0, []⟩ [] (m : Int)) := by
  have hg1 := World.grownBy_alloc w (.cells #[.slice none 0 0, .int .i64 0, .slice none 0 0, .int .i64 0, .int .i64 0, .slice none 0 0, .int .i64 0] 53) none
  have b8 := Box.new w 53 [.slice none 0 0, .int .i64 0, .slice none 0 0, .int .i64 0, .int .i64 0, .slice none 0 0, .int .i64 0] w.heap.size rfl
  obtain ⟨w1, hw1⟩ : ∃ w1, w.alloc (.cells #[.slice none 0 0, .int .i64 0, .slice none 0 0, .int .i64 0, .int .i64 0, .slice none 0 0, .int .i64 0] 53) = w1 := ⟨_, rfl⟩
  rw [hw1] at hg1 b8
  have hZ : ∀ k, w1.heap.size ≤ k → ¬ (X k ∨ k = w.heap.size) := fun k hk e => by
    have := b8.lt
    have := hg1.size
    rcases e with e | e
    · exact hX k (by omega) e
    · omega
  have hc := refv_new x y (fun k => X k ∨ k = w.heap.size) w1 hZ
  rw [h1, h2] at hc
  have hlim : nb ≤ 1024 ∧ sz ≤ 4096 ∧ 64 ≤ s ∧ s ≤ 4096 := by
    rw [← h1, ← h2, ← h3]
    refine ⟨by unfold clampN; omega, by unfold clampN; omega, ?_, ?_⟩ <;> (unfold clampS; split <;> (try split) <;> omega)
  have HT := Lib.hid (fun u => ref_new z u)
  rw [h3] at HT
  have HC := Lib.hid hc; have HL := Lib.hid hlim; have HN := Lib.hid (fun _ : True => h4)
  have HG := Lib.hid hg1; have B8 := Lib.hid b8
  have HW := Lib.hid (fun _ : True => hw1)
  have m0 : ¬ (m : Int) < 0 := by omega
  have m1 : ¬ (1048576 : Int) < (m : Int) := by omega
  clear hX h1 h2 h3 h4 hg1 b8 hw1 hZ hc hlim hm
  go_enter Try.func21, Try.ntmps21
  go_wp2_with fail
  rw [HW.out trivial]
  refine HC.out.mono ?_
  rintro r w2 ⟨v, rfl, hv, hg2⟩
  obtain ⟨a, c, rfl⟩ := hv.open
  rw [List.length_replicate] at hv ⊢
  have HV := Lib.hid hv; have HG2 := Lib.hid hg2
  clear hv hg2
  go_wp2_with fail
  refine (HT.out _).mono ?_
  rintro r w3 ⟨rfl, hg3⟩
  have HG3 := Lib.hid (grown_trans HG2.out hg3)
  have y8 := (B8.out.grown (grown_trans HG2.out hg3)).look
  have o8 := (B8.out.grown (grown_trans HG2.out hg3)).open
  have HF := Lib.hid (show RefFace w3 (fun k => X k ∨ k = w.heap.size) nb sz N s ⟨List.replicate N 0, 0, []⟩ a c none 0 0 from ⟨⟨_, HV.out.grown hg3, match_zero (HN.out trivial)⟩, SlB.empty, RX.nil _ _ _, HN.out trivial, List.length_replicate, HL.out.1, HL.out.2.1, HL.out.2.2⟩)
  have SI := set_idx
  have SF := set_far
  clear hg3
  go_wp2_with fail
  refine bodyPost_ret (v := .agg #[.slice a nb c, .int .i64 (sz : Int), .slice none 0 0, .int .i64 0, .int .i64 (s : Int), .slice none 0 0, .int .i64 (m : Int)]) ?_ rfl ?_
  · simp only [results]
    go_simp
  · exact refd_finG (Gs := 0) (Nat.zero_mul s) HF.out.disk0 (grown_trans HG.out HG3.out) (Nat.le_refl _) (by with_reducible (repeat (first | refine kset ?_ (by show _ = _; rfl) | refine kdrew ?_ | exact Kept.refl _ _)))
/-- a write as the disk notes it -/
def normW (W : WriteV) : WriteV := if W.k = 0 then ⟨0, W.i, W.b, 0⟩ else if W.k = 1 then ⟨1, 0, W.b, 0⟩ else ⟨W.k, 0, [], W.n⟩
theorem doV_norm (nb sz s : Nat) (F : FaceV) (W : WriteV) (torn : Bool) (n : Int) : doV nb sz s F (normW W) torn n = doV nb sz s F W torn n := by
  unfold normW
  by_cases h0 : W.k = 0
  · rw [if_pos h0]
    simp [doV, h0]
  · by_cases h1 : W.k = 1
    · rw [if_neg h0, if_pos h1]
      simp [doV, h1]
    · rw [if_neg h0, if_neg h1]
      simp [doV, h0, h1]
theorem seenV_norm (nb sz s : Nat) : ∀ (T : List WriteV) (F : FaceV), seenV nb sz s F (T.map normW) = seenV nb sz s F T
  | [], _ => rfl
  | W :: T, F => by
    show seenV nb sz s (doV nb sz s F (normW W) false 0) (T.map normW) = seenV nb sz s (doV nb sz s F W false 0) T
    rw [doV_norm, seenV_norm nb sz s T]
theorem crashV_norm (nb sz s : Nat) (F : FaceV) (T : List WriteV) (keep tear : Int) : crashV nb sz s F (T.map normW) keep tear = crashV nb sz s F T keep tear := by
  unfold crashV
  rw [← List.map_drop, ← List.map_take]
  cases T.drop keep.toNat with
  | nil => exact seenV_norm nb sz s T F
  | cons W R =>
    show doV nb sz s (seenV nb sz s F ((T.take keep.toNat).map normW)) (normW W) true tear = _
    rw [doV_norm, seenV_norm]
theorem tol_act {A : DActV} (hk : 0 ≤ A.k ∧ A.k ≤ 255) (nb sz s most : Nat) (S : FaceV) (T : List WriteV) :
    actST nb sz s most A S (T.map normW) = ((tolST nb sz s most A S T).1, (tolST nb sz s most A S T).2.map normW) ∧ actErr nb sz s most A S (T.map normW) = actErr nb sz s most A S T := by
  have hq : 0 ≤ A.k.tmod 6 ∧ A.k.tmod 6 < 6 := by
    rw [Int.tmod_eq_emod_of_nonneg hk.1]
    omega
  unfold actST actErr tolST
  rw [seenV_norm, crashV_norm]
  generalize A.k.tmod 6 = q at *
  obtain rfl | rfl | rfl | rfl | rfl | rfl : q = 0 ∨ q = 1 ∨ q = 2 ∨ q = 3 ∨ q = 4 ∨ q = 5 := by omega
  · refine ⟨?_, rfl⟩
    simp only [putT]
    by_cases h : putE nb sz A.i A.b.length = 0
    · simp [h, normW]
    · simp [h]
  · refine ⟨?_, rfl⟩
    simp only [appT]
    by_cases h : appE most A.b.length (seenV nb sz s S T).l.length = 0
    · simp [h, normW]
    · simp [h]
  · exact ⟨by simp [normW], rfl⟩
  · exact ⟨by simp [normW], rfl⟩
  · exact ⟨rfl, rfl⟩
  · exact ⟨rfl, rfl⟩
theorem norm_tot (T : List WriteV) : totB (T.map normW) ≤ totB T := by
  induction T with
  | nil => exact Nat.le_refl _
  | cons W T ih =>
    rw [List.map_cons, totB_cons, totB_cons]
    have : (normW W).b.length ≤ W.b.length := by
      unfold normW
      split
      · exact Nat.le_refl _
      · split
        · exact Nat.le_refl _
        · simp
    omega
theorem tol_bound {nb sz s : Nat} (hs : 1 ≤ s) (most : Nat) (A : DActV) (S : FaceV) (T : List WriteV) :
    (tolST nb sz s most A S T).2.length ≤ T.length + 1 ∧ endV s (tolST nb sz s most A S T).1 + totB (tolST nb sz s most A S T).2 ≤ endV s S + totB T + A.b.length := by
  unfold tolST
  have h3 := seenV_end nb sz s hs T S
  have h4 := crashV_end (nb := nb) (sz := sz) hs S T A.i A.t
  have h5 : ∀ W : WriteV, totB (T ++ [W]) = totB T + W.b.length := fun W => by rw [totB_append]; simp [totB]
  have h6 : totB ([] : List WriteV) = 0 := rfl
  split
  · simp only [h6, List.length_nil]; omega
  · split
    · simp only [h6, List.length_nil]; omega
    · split
      · simp only
        split
        · rw [h5]; refine ⟨by simp, ?_⟩; simp only; omega
        · omega
      · split
        · simp only
          split
          · rw [h5]; refine ⟨by simp, ?_⟩; simp only; omega
          · omega
        · simp only
          rw [h5]; refine ⟨by simp, ?_⟩; simp only; omega

/-- the seven values of the document's disk -/
def d7 (nb sz Fs s most : Nat) (va : Option Addr) (vc : Nat) (ta : Option Addr) (tn tc : Nat) (qa : Option Addr) (qn qc : Nat) : List Value := [.slice va nb vc, .int .i64 (sz : Int), .slice ta tn tc, .int .i64 (Fs : Int), .int .i64 (s : Int), .slice qa qn qc, .int .i64 (most : Int)]
/-- both disks ahead of a round -/
structure Both (w0 w : World) (p6 d nb sz N s most k : Nat) (D : DId) (S : FaceV) (Tr : List WriteV) (va : Option Addr) (vc : Nat) (ta : Option Addr) (tn tc : Nat) (qa : Option Addr) (qn qc : Nat) (loc : List Loc) : Prop where
  pd : D.d = d
  live : Live w0 w D nb sz N s most S (Tr.map normW)
  ref : RefDisk w (fun q => DY D q ∨ q = p6) nb sz N s S Tr va vc ta tn tc qa qn qc loc
  box : Box w p6 53 (d7 nb sz (S.f * s) s most va vc ta tn tc qa qn qc)
  own : ¬ DY D p6 ∧ ¬ LX D p6 ∧ w0.heap.size ≤ p6
  len : Tr.length ≤ k
  big : endV s S + totB Tr ≤ 300 * k
def PlaysRel (w0 : World) (p6 d nb sz N s most len : Nat) (i : Value) (wr : World) : Prop :=
  ∃ (k : Nat) (D : DId) (S : FaceV) (Tr : List WriteV) (va : Option Addr) (vc : Nat) (ta : Option Addr) (tn tc : Nat) (qa : Option Addr) (qn qc : Nat) (loc : List Loc), k ≤ len ∧ i = .int .i64 (k : Int) ∧ Both w0 wr p6 d nb sz N s most k D S Tr va vc ta tn tc qa qn qc loc
/-- behind 'told': the new disk lies in a box of its own -/
def TolCut (wr : World) (X : Nat → Prop) (nb sz N s most : Nat) (S : FaceV) (T : List WriteV) (e : Int) (s8 s9 : Value) (wx : World) : Prop :=
  ∃ (p8 : Nat) (va : Option Addr) (vc : Nat) (ta : Option Addr) (tn tc : Nat) (qa : Option Addr) (qn qc : Nat) (loc : List Loc), s8 = .pointer (some ⟨p8, 0, none⟩) ∧ s9 = .int .i64 e ∧ wr.heap.size ≤ p8 ∧ Box wx p8 53 (d7 nb sz (S.f * s) s most va vc ta tn tc qa qn qc) ∧ RefDisk wx X nb sz N s S T va vc ta tn tc qa qn qc loc ∧ wr.grownBy wx none
theorem tolCut_of {wr u w4 : World} {X : Nat → Prop} {nb sz N s most Gs : Nat} {S : FaceV} {T : List WriteV} {e : Int} {va : Option Addr} {vc : Nat} {ta : Option Addr} {tn tc : Nat} {qa : Option Addr} {qn qc : Nat} {loc : List Loc} (hG : S.f * s = Gs) (h : RefDisk w4 X nb sz N s S T va vc ta tn tc qa qn qc loc) (hu : wr.grownBy u none) (hg : u.grownBy w4 none) :
    TolCut wr X nb sz N s most S T e (.pointer (some ⟨w4.heap.size, 0, none⟩)) (.int .i64 e) (w4.alloc (.cells #[.slice va nb vc, .int .i64 (sz : Int), .slice ta tn tc, .int .i64 (Gs : Int), .int .i64 (s : Int), .slice qa qn qc, .int .i64 (most : Int)] 53)) := by
  have hga := World.grownBy_alloc w4 (.cells #[.slice va nb vc, .int .i64 (sz : Int), .slice ta tn tc, .int .i64 (Gs : Int), .int .i64 (s : Int), .slice qa qn qc, .int .i64 (most : Int)] 53) none
  have hg4 := grown_trans hu hg
  refine ⟨_, va, vc, ta, tn, tc, qa, qn, qc, loc, rfl, rfl, hg4.size, ?_, h.grown hga, grown_trans hg4 hga⟩
  rw [hG]
  exact Box.new w4 53 _ _ rfl
def set7 (w : World) (p : Nat) (a b c d e f g : Value) : World := ((((((w.setCell ⟨p, 0, none⟩ a).setCell ⟨p, 1, none⟩ b).setCell ⟨p, 2, none⟩ c).setCell ⟨p, 3, none⟩ d).setCell ⟨p, 4, none⟩ e).setCell ⟨p, 5, none⟩ f).setCell ⟨p, 6, none⟩ g
theorem set7_kept (w : World) (p : Nat) (a b c d e f g : Value) : Kept (fun k => k = p) w (set7 w p a b c d e f g) :=
  by
  unfold set7
  with_reducible (repeat (first | refine kset ?_ (by show _ = _; rfl) | exact Kept.refl _ _))
theorem set7_box {w : World} {p : Nat} {T : TypeId} {c0 c1 c2 c3 c4 c5 c6 : Value} (h : Box w p T [c0, c1, c2, c3, c4, c5, c6]) (a b c d e f g : Value) : Box (set7 w p a b c d e f g) p T [a, b, c, d, e, f, g] :=
  (((((((h.set 0 a).set 1 b).set 2 c).set 3 d).set 4 e).set 5 f).set 6 g)
theorem tolCut_of2 {wr u w5 : World} {X : Nat → Prop} {p8 nb sz N s most Gs : Nat} {S : FaceV} {T : List WriteV} {e : Int} {va : Option Addr} {vc : Nat} {ta : Option Addr} {tn tc : Nat} {qa : Option Addr} {qn qc : Nat} {loc : List Loc} {c0 c1 c2 c3 c4 c5 c6 : Value} (hG : S.f * s = Gs) (h : RefDisk w5 (fun q => X q ∨ q = p8) nb sz N s S T va vc ta tn tc qa qn qc loc) (hu : wr.grownBy u none) (h8 : wr.heap.size ≤ p8) (hb : Box w5 p8 53 [c0, c1, c2, c3, c4, c5, c6]) (hg : u.grownBy w5 none) :
    TolCut wr X nb sz N s most S T e (.pointer (some ⟨p8, 0, none⟩)) (.int .i64 e) (((((((w5.setCell ⟨p8, 0, none⟩ (.slice va nb vc)).setCell ⟨p8, 1, none⟩ (.int .i64 (sz : Int))).setCell ⟨p8, 2, none⟩ (.slice ta tn tc)).setCell ⟨p8, 3, none⟩ (.int .i64 (Gs : Int))).setCell ⟨p8, 4, none⟩ (.int .i64 (s : Int))).setCell ⟨p8, 5, none⟩ (.slice qa qn qc)).setCell ⟨p8, 6, none⟩ (.int .i64 (most : Int))) := by
  have hks := set7_kept w5 p8 (.slice va nb vc) (.int .i64 (sz : Int)) (.slice ta tn tc) (.int .i64 (Gs : Int)) (.int .i64 (s : Int)) (.slice qa qn qc) (.int .i64 (most : Int))
  refine ⟨p8, va, vc, ta, tn, tc, qa, qn, qc, loc, rfl, rfl, h8, ?_, (h.kept (hks.more (fun q e => .inr e))).more (fun q e => .inl (.inl e)), Kept.own (grown_trans hu hg) hks (fun q e => by rw [e]; exact h8)⟩
  rw [hG]
  exact set7_box hb _ _ _ _ _ _ _
/-- a round's end: both disks behind the act, the document's one stored -/
theorem plays_step {w0 wr w5 w6 : World} {p6 p8 d nb sz N s most k : Nat} {D : DId} {S : FaceV} {Tr : List WriteV} {va : Option Addr} {vc : Nat} {ta : Option Addr} {tn tc : Nat} {qa : Option Addr} {qn qc : Nat} {loc : List Loc} (h : Both w0 wr p6 d nb sz N s most k D S Tr va vc ta tn tc qa qn qc loc)
    {S' : FaceV} {Tr' : List WriteV} {va2 : Option Addr} {vc2 : Nat} {ta2 : Option Addr} {tn2 tc2 : Nat} {qa2 : Option Addr} {qn2 qc2 : Nat} {loc2 : List Loc} (h5 : RefDisk w5 (fun q => DY D q ∨ q = p6) nb sz N s S' Tr' va2 vc2 ta2 tn2 tc2 qa2 qn2 qc2 loc2) (hg5 : wr.grownBy w5 none) (h8 : wr.heap.size ≤ p8) (hb8 : Box w5 p8 53 (d7 nb sz (S'.f * s) s most va2 vc2 ta2 tn2 tc2 qa2 qn2 qc2)) {v : Value} {r : Ending}
    (hp : OpPost w5 D nb sz N s most S' (Tr'.map normW) v r w6) :
    r = .returned v ∧ ∃ D', D'.d = d ∧ DiskAt w6 D' nb sz N s most S' (Tr'.map normW) ∧ (∃ Y : Nat → Prop, RefDisk w6 Y nb sz N s S' Tr' va2 vc2 ta2 tn2 tc2 qa2 qn2 qc2 loc2 ∧ (∀ q, w6.heap.size ≤ q → ¬ Y q)) ∧ Box w6 p8 53 (d7 nb sz (S'.f * s) s most va2 vc2 ta2 tn2 tc2 qa2 qn2 qc2) ∧ w0.grownBy w6 none ∧
      (Tr'.length ≤ k + 1 → endV s S' + totB Tr' ≤ 300 * (k + 1) → ∀ w7, w6.grownBy w7 none → Box w7 p6 53 (d7 nb sz (S.f * s) s most va vc ta tn tc qa qn qc) ∧ ∀ Gs, S'.f * s = Gs → Both w0 (set7 w7 p6 (.slice va2 nb vc2) (.int .i64 (sz : Int)) (.slice ta2 tn2 tc2) (.int .i64 (Gs : Int)) (.int .i64 (s : Int)) (.slice qa2 qn2 qc2) (.int .i64 (most : Int))) p6 d nb sz N s most (k + 1) D' S' Tr' va2 vc2 ta2 tn2 tc2 qa2 qn2 qc2 loc2) := by
  have hl5 := h.live.later hg5
  have hlv := hl5.op hp
  obtain ⟨er, D', h1, h2, h3, h4, hk⟩ := hp
  have hz5 := hg5.size
  have hz6 := hk.size
  have hlow := h.live.disk.low
  have hlx := h.live.disk.lows
  have hp6 := h.box.lt
  have hY : ∀ q, (DY D' q ∨ q = p6) → (DY D q ∨ q = p6) ∨ (w5.heap.size ≤ q ∧ q < w6.heap.size) := fun q e => by
    rcases e with e | e
    · rcases h4 q e with e2 | e2
      · exact .inl (.inl e2)
      · exact .inr ⟨e2, h1.low q e⟩
    · exact .inl (.inr e)
  have h6 : RefDisk w6 (fun q => (DY D q ∨ q = p6) ∨ (w5.heap.size ≤ q ∧ q < w6.heap.size)) nb sz N s S' Tr' va2 vc2 ta2 tn2 tc2 qa2 qn2 qc2 loc2 :=
    (h5.more (fun q e => e.imp id (fun e => e.1))).kept (hk.more (fun q e => .inl (.inl e)))
  have hn6 : ∀ q, w6.heap.size ≤ q → ¬ ((DY D q ∨ q = p6) ∨ (w5.heap.size ≤ q ∧ q < w6.heap.size)) := fun q hq e => by
    rcases e with (e | e) | e
    · have := hlow q e; omega
    · omega
    · omega
  have hb6 := hb8.keptX hk (fun e => by have := hlow _ e; omega)
  have hp6' : ¬ DY D' p6 := fun e => by
    rcases h4 _ e with e | e
    · exact h.own.1 e
    · omega
  have hq6' : ¬ LX D' p6 := fun e => by
    rcases h3 _ e with e | e
    · exact h.own.2.1 e
    · omega
  have hgw : w0.grownBy w6 none := hlv.2.choose_spec.1.grown
  refine ⟨er, D', h2.trans h.pd, h1, ⟨_, h6, hn6⟩, hb6, hgw, fun hl hb w7 hg7 => ?_⟩
  have hbx : Box w7 p6 53 (d7 nb sz (S.f * s) s most va vc ta tn tc qa qn qc) := ((h.box.grown hg5).keptX hk h.own.1).grown hg7
  refine ⟨hbx, fun Gs hG => ?_⟩
  have hks := set7_kept w7 p6 (.slice va2 nb vc2) (.int .i64 (sz : Int)) (.slice ta2 tn2 tc2) (.int .i64 (Gs : Int)) (.int .i64 (s : Int)) (.slice qa2 qn2 qc2) (.int .i64 (most : Int))
  refine ⟨h2.trans h.pd, ⟨(h1.grown hg7).keptX hks (fun q e1 e2 => hp6' (e2 ▸ e1)) (fun q e1 e2 => hq6' (e2 ▸ e1)), fun q e => ?_, Kept.own (grown_trans hgw hg7) hks (fun q e => by rw [e]; exact h.own.2.2)⟩, ?_, ?_, ⟨hp6', hq6', h.own.2.2⟩, hl, hb⟩
  · rcases h4 q e with e2 | e2
    · exact h.live.lo q e2
    · have := h.live.grown.size; omega
  · exact ((h6.grown hg7).kept (hks.more (fun q e => .inl (.inr e)))).more (fun q e => .inl (hY q e))
  · rw [hG]
    exact set7_box hbx _ _ _ _ _ _ _
set_option maxHeartbeats 3200000 in
theorem diskPlays_walk (mo : Int) (a : Option Addr) (len cap : Nat) (A : Nat → DActV) (w : World) (hmo : 0 ≤ mo ∧ mo ≤ 65535) (hl : len ≤ maxLen) (hA : ∀ i, i < len → DActAt w a i (A i)) :
    Calls Try.prog 6 #[.int .u16 mo, .slice a len cap] w (fun r w' => r = .returned (.bool true) ∧ Below w.heap.size w w') := by
  have HF := Lib.hid (disk_few w a len cap A hl hA)
  obtain ⟨m, hm⟩ : ∃ m : Nat, mo.tmod 2000 = (m : Int) := ⟨(mo.tmod 2000).toNat, by rw [Int.tmod_eq_emod_of_nonneg hmo.1]; omega⟩
  have hm2 : m ≤ 1999 := by rw [Int.tmod_eq_emod_of_nonneg hmo.1] at hm; omega
  have q1 : IntKind.u16.wrap (m : Int) = (m : Int) := by rw [IntKind.wrap_u16]; omega
  have q2 : IntKind.i64.wrap (m : Int) = (m : Int) := by rw [IntKind.wrap_i64]; omega
  obtain ⟨nb, sz, s, hn, hr⟩ : ∃ nb sz s : Nat, (∀ u, Calls Try.prog 20 #[.int .i64 4, .int .i64 32, .int .i64 64, .int .i64 (m : Int)] u (NewDPost u nb sz s m)) ∧ (∀ (X : Nat → Prop) u, (∀ k, u.heap.size ≤ k → ¬ X k) → Calls Try.prog 21 #[.int .i64 4, .int .i64 32, .int .i64 64, .int .i64 (m : Int)] u (RefDPost u X nb sz (nb * sz) s ⟨List.replicate (nb * sz) 0, 0, []⟩ [] (m : Int))) :=
    ⟨_, _, _, fun u => by have h := disk_new 4 32 64 (m : Int) u; rw [show clampN (m : Int) 1048576 = m by unfold clampN; omega] at h; exact h, fun X u hX => ref9_new 4 32 64 m (by omega) X u hX _ _ _ _ rfl rfl rfl rfl⟩
  have HN := Lib.hid hn; have HR := Lib.hid hr
  have HA := Lib.hid hA; have HM := Lib.hid hm2
  clear hl hA hn hr
  go_enter Try.func6, Try.ntmps6
  go_wp2_with fail
  refine HF.out.mono ?_
  rintro r w1 ⟨f1, rfl, hg1, hf1⟩
  have HG1 := Lib.hid hg1
  have HFF := Lib.hid hf1
  clear hg1 hf1 HF
  cases f1 with
  | false =>
    go_wp2_with fail
    refine (disk_works w1).mono ?_
    rintro r w2 ⟨rfl, hg2⟩
    have HG2 := Lib.hid hg2
    clear hg2
    go_wp2_with fail
    go_ret
    exact ⟨rfl, grown_below (grown_trans HG1.out HG2.out)⟩
  | true =>
    have HFT := Lib.hid (HFF.out rfl)
    clear HFF
    go_wp2_with fail
    refine (HN.out w1).mono ?_
    rintro r w2 hp
    obtain ⟨D, N, rfl, hlv⟩ := Live.made hp
    have hNN : nb * sz = N := hlv.disk.fi.vol.mul
    subst hNN
    have HLV := Lib.hid hlv
    obtain ⟨d, hd⟩ : ∃ d, D.d = d := ⟨_, rfl⟩
    rw [hd]
    have HD := Lib.hid (fun _ : True => hd)
    clear hp hlv hd
    go_wp2_with fail
    refine (HR.out (fun q => DY D q) w2 (fun q hq e => by have := HLV.out.disk.low q e; omega)).mono ?_
    rintro r w3 ⟨va, vc, ta, tn, tc, qa, qn, qc, loc, rfl, hd3, hg3⟩
    obtain ⟨Fs, hFs⟩ : ∃ Fs, (FaceV.mk (List.replicate (nb * sz) 0) 0 []).f * s = Fs := ⟨_, rfl⟩
    rw [hFs]
    have hga := World.grownBy_alloc w3 (.cells #[.slice va nb vc, .int .i64 (sz : Int), .slice ta tn tc, .int .i64 (Fs : Int), .int .i64 (s : Int), .slice qa qn qc, .int .i64 (m : Int)] 53) none
    have hbx := Box.new w3 53 [.slice va nb vc, .int .i64 (sz : Int), .slice ta tn tc, .int .i64 (Fs : Int), .int .i64 (s : Int), .slice qa qn qc, .int .i64 (m : Int)] w3.heap.size rfl
    obtain ⟨w4, hw4⟩ : ∃ u, w3.alloc (.cells #[.slice va nb vc, .int .i64 (sz : Int), .slice ta tn tc, .int .i64 (Fs : Int), .int .i64 (s : Int), .slice qa qn qc, .int .i64 (m : Int)] 53) = u := ⟨_, rfl⟩
    rw [hw4] at hga hbx
    have HW4 := Lib.hid (fun _ : True => hw4)
    have hz3 := hg3.size
    have hl1 := HLV.out.grown.size
    obtain ⟨p6, hp6⟩ : ∃ p6, w3.heap.size = p6 := ⟨_, rfl⟩
    have hbth : Both w1 w4 p6 d nb sz (nb * sz) s m 0 D ⟨List.replicate (nb * sz) 0, 0, []⟩ [] va vc ta tn tc qa qn qc loc :=
      ⟨HD.out trivial, HLV.out.later (grown_trans hg3 hga), (hd3.more (fun q e => e.imp id (fun e => by omega))).grown hga, by rw [hFs, ← hp6]; exact hbx, ⟨fun e => by have := HLV.out.disk.low _ e; omega, fun e => by have := HLV.out.disk.lows _ e; omega, by omega⟩, Nat.le_refl _, by simp [endV, totB]⟩
    have HST := Lib.hid (show PlaysRel w1 p6 d nb sz (nb * sz) s m len (.int .i64 0) w4 from ⟨0, D, _, _, va, vc, ta, tn, tc, qa, qn, qc, loc, Nat.zero_le _, rfl, hbth⟩)
    have HP6 := Lib.hid (fun _ : True => hp6)
    clear hd3 hg3 hga hbx hw4 hz3 hl1 hbth HLV HR HN hFs hp6
    go_wp2_with fail
    rw [HW4.out trivial, HP6.out trivial]
    go_loopw [7] (fun i wr => PlaysRel w1 p6 d nb sz (nb * sz) s m len i wr) (fun i _ => len - (intOf i).toNat)
    case atStart => exact HST.out
    case round =>
      clear HST
      obtain ⟨k, D, S, Tr, va, vc, ta, tn, tc, qa, qn, qc, loc, hk, rfl, hb⟩ := hrel
      have HB := Lib.hid hb
      by_cases hlt : k < len
      · have hgw := grown_trans HG1.out hb.live.grown
        have h40 := HFT.out.1
        have hAl := HFT.out.2 k hlt
        obtain ⟨b, o, rfl, c0, c1, c2, c3, c4, hok⟩ := (HA.out k hlt).grown hgw
        have hok0 := (HA.out k hlt).ok
        have hrx := RX.new (X := fun q => DY D q ∨ q = p6) hok0.b.reads hgw (fun q e => by
          have := HG1.out.size
          rcases e with e | rfl
          · have := hb.live.lo q e; omega
          · have := hb.own.2.2; omega)
        have hlen := hb.len
        have hbig := hb.big
        have hXn : ∀ u, wr.grownBy u none → ∀ q, u.heap.size ≤ q → ¬ (DY D q ∨ q = p6) := fun u hu q hq e => by
          have := hu.size
          have := hb.box.lt
          rcases e with e | e
          · have := hb.live.disk.low q e; omega
          · omega
        have hm3 := HM.out
        have htc := fun u (hu : wr.grownBy u none) => ref_told (most := m) (hb.ref.grown hu) (hXn u hu) (A k) (hok.grown hu) (hrx.kept (Kept.of_grown hu)) (by omega) (by omega) (by omega)
        have hgz := World.grownBy_alloc wr (.cells #[.slice none 0 0, .int .i64 0, .slice none 0 0, .int .i64 0, .int .i64 0, .slice none 0 0, .int .i64 0] 53) none
        have hbz := Box.new wr 53 [.slice none 0 0, .int .i64 0, .slice none 0 0, .int .i64 0, .int .i64 0, .slice none 0 0, .int .i64 0] wr.heap.size rfl
        have htc2 := fun u (hu : (wr.alloc (.cells #[.slice none 0 0, .int .i64 0, .slice none 0 0, .int .i64 0, .int .i64 0, .slice none 0 0, .int .i64 0] 53)).grownBy u none) => ref_told (most := m) (((hb.ref.more (Y := fun q => (DY D q ∨ q = p6) ∨ q = wr.heap.size) (fun q e => e.imp id (fun e => by omega))).grown hgz).grown hu) (fun q hq e => by
          have hz := hu.size
          rw [World.size_alloc] at hz
          rcases e with e | e
          · exact hXn u (grown_trans hgz hu) q hq e
          · omega) (A k) ((hok.grown hgz).grown hu) (((hrx.more (Y := fun q => (DY D q ∨ q = p6) ∨ q = wr.heap.size) (fun q e => e.imp id (fun e => by omega))).kept (Kept.of_grown hgz)).kept (Kept.of_grown hu)) (by omega) (by omega) (by omega)
        have hnt := norm_tot Tr
        have hdc := fun u (hu : wr.grownBy u none) => disk_do D nb sz (nb * sz) s m S (Tr.map normW) (A k) u (hb.live.disk.grown hu) (hok.grown hu) (by omega) (by rw [List.length_map]; omega) (by omega) (by omega)
        have hact := tol_act (A := A k) hok.k nb sz s m S Tr
        have hbd := tol_bound (nb := nb) (sz := sz) (s := s) (by have := hb.ref.face.seg; omega) m (A k) S Tr
        have hbl := hok.b.len_eq
        rw [hact.1, hact.2] at hdc
        obtain ⟨S', hS'⟩ : ∃ S', (tolST nb sz s m (A k) S Tr).1 = S' := ⟨_, rfl⟩
        obtain ⟨Tr', hT'⟩ : ∃ Tr', (tolST nb sz s m (A k) S Tr).2 = Tr' := ⟨_, rfl⟩
        obtain ⟨E, hE⟩ : ∃ E, actErr nb sz s m (A k) S Tr = E := ⟨_, rfl⟩
        simp only [hS', hT', hE] at htc htc2 hdc hbd
        have HBD := Lib.hid (show Tr'.length ≤ k + 1 ∧ endV s S' + totB Tr' ≤ 300 * (k + 1) from ⟨by omega, by omega⟩)
        have HK := Lib.hid (fun _ : True => And.intro hlt h40)
        have HLT := Lib.hid (fun _ : True => And.intro (same_le (Int.ofNat_lt.2 hlt)) (same_lt (Int.ofNat_lt.2 hlt)))
        have HLW := Lib.hid (fun _ : True => And.intro (same_w (Int.ofNat_lt.2 hlt) (Nat.le_trans h40 (by decide))) (same_w2 (Int.ofNat_lt.2 hlt) (Nat.le_trans h40 (by decide))))
        obtain ⟨Fs, hFs⟩ : ∃ Fs, S.f * s = Fs := ⟨_, rfl⟩
        have hbx := hb.box
        rw [hFs] at htc htc2 hbx
        have hbx2 : Box wr p6 53 [.slice va nb vc, .int .i64 (sz : Int), .slice ta tn tc, .int .i64 (Fs : Int), .int .i64 (s : Int), .slice qa qn qc, .int .i64 (m : Int)] := hbx
        have y6 := hbx2.look
        have HBX2 := Lib.hid (hbx2.grown hgz)
        have TC2 := Lib.hid htc2; have HBZ := Lib.hid hbz; have HGZ := Lib.hid hgz
        have TC := Lib.hid htc; have DC := Lib.hid hdc
        obtain ⟨Gs, hGs⟩ : ∃ Gs, S'.f * s = Gs := ⟨_, rfl⟩
        have HGS := Lib.hid (fun _ : True => hGs)
        have i0 : (0 : Int) ≤ (k : Int) := by omega
        have i1 : (k : Int) < (len : Int) := by omega
        have HC := Lib.hid (And.intro c0 (And.intro c1 (And.intro c2 (And.intro c3 c4))))
        clear hgw h40 hAl hok hok0 hrx hlen hbig hXn hm3 htc htc2 hgz hbz hnt hdc hact hbd hbl hS' hT' hE hFs hbx hbx2 hGs hb
        go_wp2_with fail
        go_cut [8, 9] (fun s8 s9 wx => TolCut wr (fun q => DY D q ∨ q = p6) nb sz (nb * sz) s m S' Tr' E s8 s9 wx)
        case first =>
          have SI := set_idx
          have SF := set_far
          have x0 := grown_cell HGZ.out c0
          have x1 := grown_cell HGZ.out c1
          have x2 := grown_cell HGZ.out c2
          have x3 := grown_cell HGZ.out c3
          have x4 := grown_cell HGZ.out c4
          have x6 := HBX2.out.look
          go_region_law (first
            | (go_simp
               go_at_call 22
               with_reducible refine (TC.out _ (by first | exact World.grownBy.refl _ _ | exact grown_drew1 _)).mono ?_
               rintro r w5 ⟨va2, vc2, ta2, tn2, tc2, qa2, qn2, qc2, loc2, rfl, hd4, hg4⟩
               rw [HGS.out trivial]
               have HD4 := Lib.hid hd4
               have HG4 := Lib.hid (show wr.grownBy w5 none by first | exact hg4 | exact grown_trans (grown_drew1 _) hg4)
               clear hd4 hg4)
            | (go_simp
               go_at_call 22
               refine (TC2.out _ (by first | exact World.grownBy.refl _ _ | exact grown_drew1 _)).mono ?_
               rintro r w5 ⟨va2, vc2, ta2, tn2, tc2, qa2, qn2, qc2, loc2, rfl, hd4, hg4⟩
               rw [HGS.out trivial]
               have HD4 := Lib.hid hd4
               have hg5 := (show (wr.alloc (.cells #[.slice none 0 0, .int .i64 0, .slice none 0 0, .int .i64 0, .int .i64 0, .slice none 0 0, .int .i64 0] 53)).grownBy w5 none by first | exact hg4 | exact grown_trans (grown_drew1 _) hg4)
               have hb5 := HBZ.out.grown hg5
               have HB5 := Lib.hid hb5
               have HG4 := Lib.hid hg5
               have z8 := hb5.look
               have p8 := hb5.open
               clear hd4 hg4 hg5 hb5))
          all_goals (
            go_wp2_with fail
            go_meet
            first
              | (with_reducible exact tolCut_of (HGS.out trivial) HD4.out (World.grownBy.refl _ _) HG4.out)
              | (with_reducible exact tolCut_of2 (HGS.out trivial) HD4.out HGZ.out (Nat.le_refl _) HB5.out HG4.out))
        case rest =>
          obtain ⟨p8, va2, vc2, ta2, tn2, tc2, qa2, qn2, qc2, loc2, rfl, rfl, h8, hb8, hd5, hg5⟩ := hcut
          have HT5 := Lib.hid (And.intro h8 (And.intro hb8 (And.intro hd5 hg5)))
          clear y6 c0 c1 c2 c3 c4
          have c0 := grown_cell hg5 HC.out.1
          have c1 := grown_cell hg5 HC.out.2.1
          have c2 := grown_cell hg5 HC.out.2.2.1
          have c3 := grown_cell hg5 HC.out.2.2.2.1
          have c4 := grown_cell hg5 HC.out.2.2.2.2
          clear h8 hb8 hd5 hg5
          go_wp2_with fail
          clear c0 c1 c2 c3 c4
          have hdd := DC.out _ HT5.out.2.2.2
          rw [HB.out.pd] at hdd
          refine hdd.mono ?_
          rintro r w6 hp
          obtain ⟨rfl, D', pd', hD', ⟨Y, hY, hYn⟩, hb6, hgw, hnext⟩ := plays_step HB.out HT5.out.2.2.1 HT5.out.2.2.2 HT5.out.1 HT5.out.2.1 hp
          have hsm := ref9_same hD' hY hYn (m : Int) (by have := HBD.out.1; have := HK.out trivial; omega) (by have := HBD.out.2; have := HK.out trivial; omega) (by rw [seenV_norm]) (by rw [List.length_map])
          rw [pd'] at hsm
          rw [HGS.out trivial] at hsm hb6
          have hb62 : Box w6 p8 53 [.slice va2 nb vc2, .int .i64 (sz : Int), .slice ta2 tn2 tc2, .int .i64 (Gs : Int), .int .i64 (s : Int), .slice qa2 qn2 qc2, .int .i64 (m : Int)] := hb6
          have HB6 := Lib.hid hb62
          have y8 := hb62.look
          have HSM := Lib.hid hsm
          have HNX := Lib.hid (hnext HBD.out.1 HBD.out.2)
          clear hdd hp hD' hY hYn hb6 hgw hnext hsm hb62 pd'
          go_wp2_with fail
          clear y8
          refine HSM.out.mono ?_
          rintro r w7 ⟨rfl, hg7⟩
          have hn7 := HNX.out w7 hg7
          have HN7 := Lib.hid (hn7.2 Gs (HGS.out trivial))
          obtain ⟨Fq, hFq⟩ : ∃ Fq, S.f * s = Fq := ⟨_, rfl⟩
          have hb7 := hn7.1
          rw [hFq] at hb7
          have hb72 : Box w7 p6 53 [.slice va nb vc, .int .i64 (sz : Int), .slice ta tn tc, .int .i64 (Fq : Int), .int .i64 (s : Int), .slice qa qn qc, .int .i64 (m : Int)] := hb7
          have y6 := hb72.look
          have o6 := hb72.open
          have y8 := (HB6.out.grown hg7).look
          have SI := set_idx
          have SF := set_far
          clear hn7 hb7 hb72 hg7 HNX HSM hFq
          go_wp2_with fail
          have hw := HLW.out trivial
          first
            | (rw [hw.1]; exact ⟨⟨k + 1, D', S', Tr', va2, vc2, ta2, tn2, tc2, qa2, qn2, qc2, loc2, (HLT.out trivial).1, rfl, HN7.out⟩, (HLT.out trivial).2⟩)
            | (rw [hw.2]; exact ⟨⟨k + 1, D', S', Tr', va2, vc2, ta2, tn2, tc2, qa2, qn2, qc2, loc2, (HLT.out trivial).1, rfl, HN7.out⟩, (HLT.out trivial).2⟩)
      · obtain rfl : k = len := by omega
        go_wp2_with fail
        refine (disk_works _).mono ?_
        rintro r w5 ⟨rfl, hg⟩
        have HG := Lib.hid hg
        clear hg
        go_wp2_with fail
        go_ret
        exact ⟨rfl, grown_below (grown_trans HG1.out (grown_trans HB.out.live.grown HG.out))⟩

end Go.Proofs.Ytkemocbifancfaa
