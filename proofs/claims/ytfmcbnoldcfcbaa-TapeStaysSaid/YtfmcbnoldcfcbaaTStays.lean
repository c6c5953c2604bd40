/-
  TapeStays.
-/
import Derived.Test.YtfmcbnoldcfcbaaTApart
namespace Go.Proofs.Ytfmcbnoldcfcbaa
open Go.RowKit
set_option maxRecDepth 100000

/-- a tape in blocks behind w -/
structure StaySt (w : World) (g M B s k f : Nat) (l : List UInt8) (vs : List Value) (wr : World) : Prop where
  tape : TapeIs wr g M B s f l vs
  size : B ≤ wr.heap.size
  lo : ∀ q, TX g M vs q → w.heap.size ≤ q
  big : f * s + l.length ≤ 600 * k
  grown : w.grownBy wr none
def StayRel (w : World) (g M B s len : Nat) (i : Value) (wr : World) : Prop := ∃ (k f : Nat) (l : List UInt8) (vs : List Value), k ≤ len ∧ i = .int .i64 (k : Int) ∧ StaySt w g M B s k f l vs wr
theorem StaySt.later {w wr w' : World} {g M B s k f : Nat} {l : List UInt8} {vs : List Value} (h : StaySt w g M B s k f l vs wr) (hg : wr.grownBy w' none) : StaySt w g M B s k f l vs w' :=
  ⟨h.tape.grown hg, Nat.le_trans h.size hg.size, h.lo, h.big, grown_trans h.grown hg⟩
theorem StaySt.next {w wr w5 : World} {g M B s k f : Nat} {l : List UInt8} {vs : List Value} {A : TActV} (h : StaySt w g M B s k f l vs wr) (hA : A.ok w) (hAl : A.len ≤ 600) {vs2 : List Value}
    (ht : TapeIs w5 g M B s (actF s f l A.k A.n) (actL s f l A.k A.n A.b) vs2) (hro : RowsOf wr.heap.size vs vs2) (hk : Kept (TX g M vs) wr w5) :
    StaySt w g M B s (k + 1) (actF s f l A.k A.n) (actL s f l A.k A.n A.b) vs2 w5 := by
  have hs1 : 1 ≤ s := by have := h.tape.seg.1; omega
  refine ⟨ht, Nat.le_trans h.size hk.size, fun q hq => ?_, ?_, ?_⟩
  · rcases TX_rows hro q hq with e | e
    · exact h.lo q e
    · have := h.grown.size; omega
  · have h1 := act_end s f l A.b A.k A.n hs1
    have h2 := h.big
    have h3 := hA.b.len_eq
    omega
  · have hk2 : Kept (fun q => w.heap.size ≤ q) w w5 := (Kept.of_grown h.grown).trans (hk.more h.lo)
    exact ⟨hk2.os, hk2.tape, hk2.output, hk2.size, fun q hq _ => hk2.block q hq (by omega)⟩
def CmpRel (w : World) (P : Nat) (i : Value) (wr : World) : Prop := ∃ p : Nat, P ≤ p ∧ i = .int .i64 (p : Int) ∧ w.grownBy wr none
set_option maxHeartbeats 3200000 in
theorem tapeStays_walk (x : Int) (a : Option Addr) (len cap : Nat) (A : Nat → TActV) (P : TActV) (w : World) (hx : 0 ≤ x ∧ x ≤ 255) (hl : len ≤ maxLen) (hA : ∀ i, i < len → TActAt w a i (A i)) (hP : P.ok w) :
    Calls Try.prog 4 #[.int .u8 x, .slice a len cap, .agg #[.int .u8 P.k, .slice P.a P.len P.cap, .int .i64 P.n]] w fun r w' => r = .returned (.bool true) ∧ Below w.heap.size w w' := by
  have hg1 := World.grownBy_alloc w (.cells #[.int .u8 P.k, .slice P.a P.len P.cap, .int .i64 P.n] 33) none
  have hx1 := Box.new w 33 [.int .u8 P.k, .slice P.a P.len P.cap, .int .i64 P.n] w.heap.size rfl
  obtain ⟨w1, hw1⟩ : ∃ w1, w.alloc (.cells #[.int .u8 P.k, .slice P.a P.len P.cap, .int .i64 P.n] 33) = w1 := ⟨_, rfl⟩
  have hb1 : Box w1 w.heap.size 33 [.int .u8 P.k, .slice P.a P.len P.cap, .int .i64 P.n] := by rw [← hw1]; exact hx1
  rw [hw1] at hg1
  have HW1 := Lib.hid (fun _ : True => hw1)
  have HB1 := Lib.hid hb1; have HG1 := Lib.hid hg1
  have HA := Lib.hid (fun i hi => (hA i hi).grown hg1)
  have HP := Lib.hid (hP.grown hg1)
  have hfew := Lib.hid (tape_few w1 a len cap A hl HA.out)
  have hcv : IntKind.i64.wrap x = x := by rw [IntKind.wrap_i64]; omega
  clear hA hl hx1 hw1 hb1 hg1 hP
  go_enter Try.func4, Try.ntmps4
  go_wp2_with fail
  rw [HW1.out trivial]
  refine hfew.out.mono ?_
  rintro e w2 ⟨f, rfl, hg2, hf⟩
  have HG2 := Lib.hid hg2
  have c1 := (HB1.out.grown hg2).look
  clear hg2
  cases f
  · go_wp2_with fail
    refine (tape_works w2).mono ?_
    rintro e w3 ⟨rfl, hb⟩
    have HB := Lib.hid hb; clear hb
    go_wp2_with fail
    go_ret
    exact ⟨rfl, grown_below (grown_trans (grown_trans HG1.out HG2.out) (grown_of_below HB.out))⟩
  · have h40 := (hf rfl).1
    have HLEN := Lib.hid (hf rfl).2
    clear hf
    go_wp2_with fail
    obtain ⟨w3, hw3⟩ : ∃ w3, w2.alloc (.cells #[.int .u8 P.k, .slice P.a P.len P.cap, .int .i64 P.n] 33) = w3 := ⟨_, rfl⟩
    have hb3 := Box.new w2 33 [.int .u8 P.k, .slice P.a P.len P.cap, .int .i64 P.n] w2.heap.size rfl
    have hg3 := World.grownBy_alloc w2 (.cells #[.int .u8 P.k, .slice P.a P.len P.cap, .int .i64 P.n] 33) none
    have hb3' : Box w3 w2.heap.size 33 [.int .u8 P.k, .slice P.a P.len P.cap, .int .i64 P.n] := by rw [← hw3]; exact hb3
    rw [hw3] at hg3
    rw [hw3]
    have HG3 := Lib.hid (grown_trans HG2.out hg3)
    have hP3 := HP.out.grown HG3.out
    refine (tape_few w3 (some ⟨w2.heap.size, 0, none⟩) 1 1 (fun _ => P) (by unfold maxLen; omega) (fun i hi => by
      obtain rfl : i = 0 := by omega
      exact ⟨_, _, rfl, hb3'.cell 0 rfl, hb3'.cell 1 rfl, hb3'.cell 2 rfl, hP3⟩)).mono ?_
    rintro e w4 ⟨f, rfl, hg4, hf⟩
    have HG4 := Lib.hid (grown_trans HG3.out hg4)
    clear hg4 hb3 hb3' hw3 hg3 hP3 c1
    cases f
    · go_wp2_with fail
      refine (tape_works w4).mono ?_
      rintro e w5 ⟨rfl, hb⟩
      have HB := Lib.hid hb; clear hb
      go_wp2_with fail
      go_ret
      exact ⟨rfl, grown_below (grown_trans (grown_trans HG1.out HG4.out) (grown_of_below HB.out))⟩
    · have HPL := Lib.hid ((hf rfl).2 0 (by omega))
      clear hf
      go_wp2_with fail
      refine (tape_new x w4).mono ?_
      rintro e w5 ⟨rfl, ht5, hg5⟩
      have hsz := HG4.out.size
      obtain ⟨s, hs⟩ : ∃ s, clampS x = s := ⟨_, rfl⟩
      rw [hs] at ht5
      have hlt5 := ht5.box.lt
      have HST := Lib.hid (show StaySt w1 (w4.heap.size + 1) w4.heap.size (w4.heap.size + 2) s 0 0 [] [] w5 from
        ⟨ht5, by omega, fun q hq => by
            rcases hq with e | e | ⟨v, hv, _⟩
            · omega
            · omega
            · simp at hv, by rw [Nat.zero_mul]; exact Nat.le_refl _, grown_trans HG4.out hg5⟩)
      obtain ⟨M, hM⟩ : ∃ M, w4.heap.size = M := ⟨_, rfl⟩
      rw [hM] at HST
      rw [hM]
      obtain ⟨g, hg⟩ : ∃ g, M + 1 = g := ⟨_, rfl⟩
      rw [hg] at HST
      rw [hg]
      clear hsz hs ht5 hlt5 hM hg hg5
      go_wp2_with fail
      go_loopw [8] (fun i wr => StayRel w1 g M (M + 2) s len i wr) (fun i _ => len - (intOf i).toNat)
      case atStart => exact ⟨0, 0, [], [], Nat.zero_le _, rfl, HST.out⟩
      case round =>
        obtain ⟨k, f, l, vs, hk, rfl, hst⟩ := hrel
        have HS := Lib.hid hst
        clear hst
        by_cases hlt : k < len
        · have HACT := Lib.hid ((HA.out k hlt).grown HS.out.grown)
          have HALE := Lib.hid (HLEN.out k hlt)
          obtain ⟨b, o, rfl, x0, x1, x2, hok⟩ := HACT.out
          have hbig := HS.out.big
          have HDO := Lib.hid (tape_do g M (M + 2) s f l vs none 0 0 0 64 [] (A k) wr HS.out.tape HS.out.size SlB.empty (RX.nil _ _ _) hok
            (RX.new ((HA.out k hlt).ok).b.reads HS.out.grown HS.out.lo) (by omega) (by have := HALE.out; omega) (by have := HALE.out; omega))
          clear hok hbig
          have i0 : (0 : Int) ≤ (k : Int) := by omega
          have i1 : (k : Int) < (len : Int) := by omega
          go_wp2_with fail
          refine HDO.out.mono ?_
          rintro e w6 ⟨a2, n2, c2, vs2, rfl, ht6, hro6, hk6, _, _, _⟩
          have HEND := Lib.hid (HS.out.next (HA.out k hlt).ok HALE.out ht6 hro6 hk6)
          clear ht6 hro6 hk6
          go_wp2_with fail
          exact ⟨⟨k + 1, _, _, vs2, by omega, by go_num, HEND.out⟩, by simp only [intOf]; omega⟩
        · obtain rfl : k = len := by omega
          clear HST
          have hbig := HS.out.big
          have hseg := HS.out.tape.seg
          go_wp2_with fail
          refine (tape_bytes g M (M + 2) s f l vs (-1) wr HS.out.tape (by omega) (by omega)).mono ?_
          rintro e w6 ⟨v1, rfl, ho6, hg6⟩
          rw [bytes_all] at ho6
          obtain ⟨aw, n1, cw, rfl, hn1⟩ := ho6.len
          have hfar := HS.out.tape.far
          have hxw : RX w6 (TX g M vs) aw l := RX.of_rb (RB.of_own ho6) (fun ad e hne hk => by
            subst e
            have h1 := (ho6.lt ad.block rfl).1
            have h2 := hfar _ hk
            omega)
          have HXW := Lib.hid hxw
          have HS6 := Lib.hid (HS.out.later hg6)
          have HN1 := Lib.hid (fun _ : True => hn1)
          have HF6 := Lib.hid (tape_first g M (M + 2) s f l vs w6 HS6.out.tape (by omega))
          obtain ⟨F, hF⟩ : ∃ F, f * s = F := ⟨_, rfl⟩
          obtain ⟨e0, he0⟩ : ∃ e0, F + l.length = e0 := ⟨_, rfl⟩
          rw [hF] at HF6 hbig
          rw [he0] at hbig
          have HFE := Lib.hid (fun _ : True => And.intro hF he0)
          clear ho6 hg6 hfar hxw hn1 hF he0
          go_wp2_with fail
          refine HF6.out.mono ?_
          rintro e w7 ⟨rfl, hg7⟩
          have HS7 := Lib.hid (HS6.out.later hg7)
          have HXW7 := Lib.hid (HXW.out.kept (Kept.of_grown hg7))
          have HE7 := Lib.hid (tape_end g M (M + 2) s f l vs w7 HS7.out.tape)
          rw [(HFE.out trivial).1, (HFE.out trivial).2] at HE7
          have c1 := (HB1.out.grown HS7.out.grown).look
          clear hg7
          go_wp2_with fail
          refine HE7.out.mono ?_
          rintro e w8 ⟨rfl, rfl⟩
          have hP7 := HP.out.grown HS7.out.grown
          have HDO := Lib.hid (tape_do g M (M + 2) s f l vs none 0 0 0 64 [] P w8 HS7.out.tape HS7.out.size SlB.empty (RX.nil _ _ _) hP7
            (RX.new HP.out.b.reads HS7.out.grown HS7.out.lo) (by omega) (by have := HPL.out; have := HS7.out.big; omega) (by have := HPL.out; omega))
          clear hP7
          go_wp2_with fail
          refine HDO.out.mono ?_
          rintro e w9 ⟨a2, n2, c2, vs2, rfl, ht9, hro9, hk9, _, _, _⟩
          have HS9 := Lib.hid (HS7.out.next HP.out HPL.out ht9 hro9 hk9)
          have HXW9 := Lib.hid (HXW7.out.kept hk9).rb
          obtain ⟨d, hd1, hd2⟩ := act_at s f l P.b P.k P.n
          obtain ⟨f2, hf2⟩ : ∃ z, actF s f l P.k P.n = z := ⟨_, rfl⟩
          obtain ⟨l2, hl2⟩ : ∃ z, actL s f l P.k P.n P.b = z := ⟨_, rfl⟩
          rw [hf2] at HS9 hd1
          rw [hl2] at HS9 hd2
          obtain ⟨F2, hF2⟩ : ∃ F2, f2 * s = F2 := ⟨_, rfl⟩
          obtain ⟨e2, he2⟩ : ∃ e2, F2 + l2.length = e2 := ⟨_, rfl⟩
          have hFe := HFE.out trivial
          rw [hF2, hFe.1] at hd1
          have HD := Lib.hid hd2
          have HFE2 := Lib.hid (fun _ : True => And.intro hF2 he2)
          have hb9 := HS9.out.big
          rw [hF2, he2] at hb9
          have hgd : F ≤ F2 ∧ F2 ≤ e2 ∧ e0 ≤ 24600 ∧ e2 ≤ 24600 := by
            have := hFe.2
            omega
          have HDD := Lib.hid (fun _ : True => And.intro hd1 hFe.2)
          clear ht9 hro9 hk9 hd1 hd2 hf2 hl2 hF2 he2 c1 hFe hb9 hbig
          go_wp2_with fail
          refine (tape_bytes g M (M + 2) s f2 l2 vs2 (-1) w9 HS9.out.tape (by rw [(HFE2.out trivial).1, (HFE2.out trivial).2]; omega) (by omega)).mono ?_
          rintro e w10 ⟨v2, rfl, ho10, hg10⟩
          rw [bytes_all] at ho10
          obtain ⟨ab, m2, cb, rfl, hm2⟩ := ho10.len
          have HRB := Lib.hid (RB.of_own ho10)
          have HM2 := Lib.hid (fun _ : True => hm2)
          have HS10 := Lib.hid (HS9.out.later hg10)
          have HXW10 := Lib.hid (HXW9.out.oldg hg10)
          have HF10 := Lib.hid (tape_first g M (M + 2) s f2 l2 vs2 w10 HS10.out.tape (by rw [(HFE2.out trivial).1]; omega))
          rw [(HFE2.out trivial).1] at HF10
          clear ho10 hg10 hm2
          go_wp2_with fail
          refine HF10.out.mono ?_
          rintro e w11 ⟨rfl, hg11⟩
          have HS11 := Lib.hid (HS10.out.later hg11)
          have HXW11 := Lib.hid (HXW10.out.oldg hg11)
          have HRB11 := Lib.hid (HRB.out.oldg hg11)
          have HE11 := Lib.hid (tape_end g M (M + 2) s f2 l2 vs2 w11 HS11.out.tape)
          rw [(HFE2.out trivial).1, (HFE2.out trivial).2] at HE11
          have HSG := Lib.hid (tape_segs g M (M + 2) s f2 l2 vs2 w11 HS11.out.tape)
          obtain ⟨sg, hsg⟩ : ∃ sg, nSeg s l2.length = sg := ⟨_, rfl⟩
          rw [hsg] at HSG
          have q1 : (n1 : Int) = (e0 : Int) - (F : Int) := by have h1 := HN1.out trivial; have h2 := (HDD.out trivial).2; omega
          have q2 : (m2 : Int) = (e2 : Int) - (F2 : Int) := by have h1 := HM2.out trivial; have h2 := (HFE2.out trivial).2; omega
          have q3 : IntKind.i64.wrap ((e0 : Int) - (F : Int)) = (n1 : Int) := by rw [IntKind.wrap_i64]; omega
          have q4 : IntKind.i64.wrap ((e2 : Int) - (F2 : Int)) = (m2 : Int) := by rw [IntKind.wrap_i64]; omega
          have q5 : (e0 : Int) - (F : Int) = (n1 : Int) := q1.symm
          have q6 : (e2 : Int) - (F2 : Int) = (m2 : Int) := q2.symm
          clear q1 q2
          have j1 : ¬ (F2 : Int) < (F : Int) := by omega
          have j2 : ¬ (F2 : Int) > (e2 : Int) := by omega
          have j3 : ¬ (sg : Int) < 0 := by omega
          clear hg11 hsg
          go_wp2_with fail
          refine HE11.out.mono ?_
          rintro e w12 ⟨rfl, rfl⟩
          go_wp2_with fail
          refine HSG.out.mono ?_
          rintro e w13 ⟨rfl, rfl⟩
          obtain ⟨t2, ht2⟩ : ∃ t2 : Nat, min (e0 : Int) (e2 : Int) = (t2 : Int) := ⟨min e0 e2, by omega⟩
          have m1 := min_i64i (e0 : Int) (e2 : Int) (t2 : Int) ht2.symm
          have ht2b : t2 ≤ e0 ∧ t2 ≤ e2 := by omega
          clear ht2
          go_wp2_with fail
          go_loopw [15] (fun i wr => CmpRel w13 F2 i wr) (fun i _ => t2 - (intOf i).toNat)
          case atStart => exact ⟨F2, Nat.le_refl _, rfl, World.grownBy.refl _ _⟩
          case round =>
            obtain ⟨p, hp, rfl, hg⟩ := hrel
            have HG := Lib.hid hg
            clear hg
            by_cases hlt : p < t2
            · obtain ⟨z, hz⟩ : ∃ z, p - F2 = z := ⟨_, rfl⟩
              obtain ⟨y, hy⟩ : ∃ y, p - F = y := ⟨_, rfl⟩
              have hzl : z < l2.length := by have h2 := (HFE2.out trivial).2; omega
              have hyl : y < l.length := by have h2 := (HDD.out trivial).2; omega
              have hzy : d + z = y := by have h2 := (HDD.out trivial).1; omega
              have hby := HD.out z hzl (by rw [hzy]; exact hyl)
              rw [hzy, List.getElem?_eq_getElem hzl, List.getElem?_eq_getElem hyl, Option.some.injEq] at hby
              obtain ⟨b1, o1, rfl, k1⟩ := (HXW11.out.oldg HG.out) y hyl
              obtain ⟨b2, o2, rfl, k2⟩ := (HRB11.out.oldg HG.out) z hzl
              rw [hby] at k2
              obtain ⟨cc, hcc⟩ : ∃ cc, l[y] = cc := ⟨_, rfl⟩
              rw [hcc] at k1 k2
              unfold bval at k1 k2
              have i0 : (0 : Int) ≤ (y : Int) := by omega
              have i1 : (y : Int) < (n1 : Int) := by have := HN1.out trivial; omega
              have i2 : (0 : Int) ≤ (z : Int) := by omega
              have i3 : (z : Int) < (m2 : Int) := by have := HM2.out trivial; omega
              have q7 : (p : Int) - (F : Int) = (y : Int) := by omega
              have q8 : (p : Int) - (F2 : Int) = (z : Int) := by omega
              have q9 : IntKind.i64.wrap (y : Int) = (y : Int) := by rw [IntKind.wrap_i64]; omega
              have q10 : IntKind.i64.wrap (z : Int) = (z : Int) := by rw [IntKind.wrap_i64]; omega
              have i4 : (p : Int) < (t2 : Int) := by omega
              clear hz hy hzl hyl hzy hby hcc
              go_wp2_with fail
              go_quiet (fail)
              generalize hwq : wr.drewN _ = wq
              have hgq : wr.grownBy wq none := by rw [← hwq]; exact grown_drewN _ _
              clear hwq
              have HGQ := Lib.hid (grown_trans HG.out hgq)
              clear hgq k1 k2
              go_wp2_with fail
              go_roundw
              all_goals first
                | (exact ⟨p + 1, by omega, by go_num, HGQ.out⟩)
                | (simp only [intOf]; omega)
            · have i4 : ¬ (p : Int) < (t2 : Int) := by omega
              go_wp2_with fail
              refine (tape_works wr).mono ?_
              rintro e w14 ⟨rfl, hb⟩
              have HB := Lib.hid hb; clear hb
              go_wp2_with fail
              go_ret
              exact ⟨rfl, grown_below (grown_trans HG1.out (grown_trans (grown_trans HS11.out.grown HG.out) (grown_of_below HB.out)))⟩

end Go.Proofs.Ytfmcbnoldcfcbaa
