/-
  TapeApart.
-/
import Derived.Test.YtfmcbnoldcfcbaaTPlays
namespace Go.Proofs.Ytfmcbnoldcfcbaa
open Go.RowKit
set_option maxRecDepth 100000

theorem Near.rx {w w' : World} {X : Nat → Prop} {l0 l : List UInt8} {a0 a : Option Addr} (hn : Near w l0 a0 l a) (hx : RX w X a0 l0) (hX : ∀ k, X k → k < w.heap.size) (hr : RB w' a l) : RX w' X a l :=
  RX.of_rb hr (fun ad e hne hk => by
    rcases hn ad e hne with ⟨h0, ad0, e0, e1⟩ | h2
    · obtain ⟨b0, o0, e2, hnx, _⟩ := hx 0 (List.length_pos_iff.2 h0)
      rw [e0] at e2
      cases e2
      rw [← e1] at hk
      exact hnx hk
    · have := hX _ hk
      omega)
theorem RX.re {w w' : World} {X : Nat → Prop} {a : Option Addr} {l : List UInt8} (h : RX w X a l) (hr : RB w' a l) : RX w' X a l := fun i hi => by
  obtain ⟨b, o, e, hx, _⟩ := h i hi
  obtain ⟨b', o', e', hc⟩ := hr i hi
  rw [e] at e'
  cases e'
  exact ⟨b, o, e, hx, hc⟩
set_option maxHeartbeats 3200000 in
theorem tapeApart_walk (a : Option Addr) (len cap : Nat) (A : Nat → TActV) (P Q : TActV) (w : World) (hl : len ≤ maxLen) (hA : ∀ i, i < len → TActAt w a i (A i)) (hP : P.ok w) (hQ : Q.ok w) :
    Calls Try.prog 5 #[.slice a len cap, .agg #[.int .u8 P.k, .slice P.a P.len P.cap, .int .i64 P.n], .agg #[.int .u8 Q.k, .slice Q.a Q.len Q.cap, .int .i64 Q.n]] w fun r w' => r = .returned (.bool true) ∧ Below w.heap.size w w' := by
  have hg1 := grown_trans (World.grownBy_alloc w (.cells #[.int .u8 P.k, .slice P.a P.len P.cap, .int .i64 P.n] 33) none) (World.grownBy_alloc _ (.cells #[.int .u8 Q.k, .slice Q.a Q.len Q.cap, .int .i64 Q.n] 33) none)
  have hx1 := (Box.new w 33 [.int .u8 P.k, .slice P.a P.len P.cap, .int .i64 P.n] w.heap.size rfl).alloc (.cells #[.int .u8 Q.k, .slice Q.a Q.len Q.cap, .int .i64 Q.n] 33)
  have hx2 := Box.new (w.alloc (.cells #[.int .u8 P.k, .slice P.a P.len P.cap, .int .i64 P.n] 33)) 33 [.int .u8 Q.k, .slice Q.a Q.len Q.cap, .int .i64 Q.n] (w.heap.size + 1) (by simp)
  obtain ⟨w1, hw1⟩ : ∃ w1, ((w.alloc (.cells #[.int .u8 P.k, .slice P.a P.len P.cap, .int .i64 P.n] 33)).alloc (.cells #[.int .u8 Q.k, .slice Q.a Q.len Q.cap, .int .i64 Q.n] 33)) = w1 := ⟨_, rfl⟩
  have hb1 : Box w1 w.heap.size 33 [.int .u8 P.k, .slice P.a P.len P.cap, .int .i64 P.n] := by rw [← hw1]; exact hx1
  have hb2 : Box w1 (w.heap.size + 1) 33 [.int .u8 Q.k, .slice Q.a Q.len Q.cap, .int .i64 Q.n] := by rw [← hw1]; exact hx2
  rw [hw1] at hg1
  have HW1 := Lib.hid (fun _ : True => hw1)
  have HB1 := Lib.hid hb1; have HB2 := Lib.hid hb2; have HG1 := Lib.hid hg1
  have HA := Lib.hid hA
  have HPQ := Lib.hid (And.intro hP hQ)
  have hfew := Lib.hid (tape_few w1 a len cap A hl (fun i hi => (hA i hi).grown hg1))
  clear hA hl hx1 hx2 hw1 hb1 hb2 hg1 hP hQ
  go_enter Try.func5, Try.ntmps5
  go_wp2_with fail
  rw [HW1.out trivial]
  refine hfew.out.mono ?_
  rintro e w2 ⟨f, rfl, hg2, hf⟩
  have HG2 := Lib.hid hg2
  have c1 := (HB1.out.grown hg2).look
  have c2 := (HB2.out.grown hg2).look
  clear hg2
  cases f
  · go_wp2_with fail
    refine (tape_works w2).mono ?_
    rintro e w3 ⟨rfl, hb⟩
    have HB := Lib.hid hb; clear hb
    go_wp2_with fail
    go_ret
    exact ⟨rfl, grown_below (grown_trans (grown_trans HG1.out HG2.out) (grown_of_below HB.out))⟩
  · have h40 := (hf rfl).1
    have HLEN := Lib.hid (hf rfl).2
    clear hf
    go_wp2_with fail
    obtain ⟨w3, hw3⟩ : ∃ w3, w2.alloc (.cells #[.int .u8 P.k, .slice P.a P.len P.cap, .int .i64 P.n, .int .u8 Q.k, .slice Q.a Q.len Q.cap, .int .i64 Q.n] 33) = w3 := ⟨_, rfl⟩
    have hb3 := Box.new w2 33 [.int .u8 P.k, .slice P.a P.len P.cap, .int .i64 P.n, .int .u8 Q.k, .slice Q.a Q.len Q.cap, .int .i64 Q.n] w2.heap.size rfl
    have hg3 := World.grownBy_alloc w2 (.cells #[.int .u8 P.k, .slice P.a P.len P.cap, .int .i64 P.n, .int .u8 Q.k, .slice Q.a Q.len Q.cap, .int .i64 Q.n] 33) none
    have hb3' : Box w3 w2.heap.size 33 [.int .u8 P.k, .slice P.a P.len P.cap, .int .i64 P.n, .int .u8 Q.k, .slice Q.a Q.len Q.cap, .int .i64 Q.n] := by rw [← hw3]; exact hb3
    rw [hw3] at hg3
    rw [hw3]
    have HG3 := Lib.hid (grown_trans HG2.out hg3)
    have hP3 := HPQ.out.1.grown (grown_trans HG1.out HG3.out)
    have hQ3 := HPQ.out.2.grown (grown_trans HG1.out HG3.out)
    refine (tape_few w3 (some ⟨w2.heap.size, 0, none⟩) 2 2 (fun i => if i = 0 then P else Q) (by unfold maxLen; omega) (fun i hi => by
      by_cases e : i = 0
      · subst e
        exact ⟨_, _, rfl, hb3'.cell 0 rfl, hb3'.cell 1 rfl, hb3'.cell 2 rfl, hP3⟩
      · obtain rfl : i = 1 := by omega
        exact ⟨_, _, rfl, hb3'.cell 3 rfl, hb3'.cell 4 rfl, hb3'.cell 5 rfl, hQ3⟩)).mono ?_
    rintro e w4 ⟨f, rfl, hg4, hf⟩
    have HG4 := Lib.hid (grown_trans HG3.out hg4)
    clear hg4 hb3 hb3' hw3 hg3 hP3 hQ3 c1 c2
    cases f
    · go_wp2_with fail
      refine (tape_works w4).mono ?_
      rintro e w5 ⟨rfl, hb⟩
      have HB := Lib.hid hb; clear hb
      go_wp2_with fail
      go_ret
      exact ⟨rfl, grown_below (grown_trans (grown_trans HG1.out HG4.out) (grown_of_below HB.out))⟩
    · have hf2 := (hf rfl).2
      have HPL := Lib.hid (show P.len ≤ 600 ∧ Q.len ≤ 600 from ⟨hf2 0 (by omega), hf2 1 (by omega)⟩)
      clear hf hf2
      go_wp2_with fail
      refine (tape_new 80 w4).mono ?_
      rintro e w5 ⟨rfl, ht5, hg5⟩
      have HT5 := Lib.hid ht5; have HG5 := Lib.hid (grown_trans HG4.out hg5)
      clear ht5 hg5
      go_wp2_with fail
      refine (ref_new 80 w5).mono ?_
      rintro e w6 ⟨rfl, hg6⟩
      have hsz := HG4.out.size
      have hs5 := HT5.out.box.lt
      obtain ⟨s, hs⟩ : ∃ s, clampS 80 = s := ⟨_, rfl⟩
      rw [hs] at HT5
      rw [hs]
      have hbx := Box.new w6 29 [.slice none 0 0, .int .i64 0, .int .i64 (s : Int)] w6.heap.size rfl
      have hg7 := World.grownBy_alloc w6 (.cells #[.slice none 0 0, .int .i64 0, .int .i64 (s : Int)] 29) none
      have hs6 := hg6.size
      have hs7 : (w6.alloc (.cells #[.slice none 0 0, .int .i64 0, .int .i64 (s : Int)] 29)).heap.size = w6.heap.size + 1 := by simp
      have HST := Lib.hid (show PlaySt w1 (w4.heap.size + 1) w4.heap.size (w4.heap.size + 2) s w6.heap.size 0 0 [] [] none 0 0 (w6.alloc (.cells #[.slice none 0 0, .int .i64 0, .int .i64 (s : Int)] 29)) from
        ⟨(HT5.out.grown hg6).grown hg7, SlB.empty, RX.nil _ _ _, by rw [hs7]; omega, fun q hq => by
            rcases hq with e | e | ⟨v, hv, _⟩
            · omega
            · omega
            · simp at hv, ⟨fun hq => by
            rcases hq with e | e | ⟨v, hv, _⟩
            · omega
            · omega
            · simp at hv, by omega, fun ad e => (by cases e)⟩, by rw [Nat.zero_mul]; exact hbx, by rw [Nat.zero_mul]; exact Nat.le_refl _, grown_trans (grown_trans HG5.out hg6) hg7⟩)
      clear hbx hg7 hs7 hg6 hs HT5 HG5
      go_wp2_with fail
      generalize w6.alloc (.cells #[.slice none 0 0, .int .i64 0, .int .i64 (s : Int)] 29) = w7 at *
      obtain ⟨bx, hbx⟩ : ∃ bx, w6.heap.size = bx := ⟨_, rfl⟩
      obtain ⟨M, hM⟩ : ∃ M, w4.heap.size = M := ⟨_, rfl⟩
      rw [hbx, hM] at HST
      rw [hbx, hM]
      clear hbx hM hsz hs5 hs6
      obtain ⟨g, hg⟩ : ∃ g, M + 1 = g := ⟨_, rfl⟩
      rw [hg] at HST
      rw [hg]
      clear hg
      have HA1 := Lib.hid (fun i hi => (HA.out i hi).grown HG1.out)
      go_loopw [9] (fun i wr => PlayRel w1 g M (M + 2) s bx len i wr) (fun i _ => len - (intOf i).toNat)
      case atStart => exact ⟨0, 0, [], [], none, 0, 0, Nat.zero_le _, rfl, HST.out⟩
      case round =>
        obtain ⟨k, f, l, vs, ao, n, c, hk, rfl, hst⟩ := hrel
        have HS := Lib.hid hst
        have b0 := hst.box.look
        have b1 := hst.box.open
        clear hst
        by_cases hlt : k < len
        · have HACT := Lib.hid ((HA1.out k hlt).grown HS.out.grown)
          have HALE := Lib.hid (HLEN.out k hlt)
          obtain ⟨b, o, rfl, x0, x1, x2, hok⟩ := HACT.out
          obtain ⟨F, hF⟩ : ∃ F, f * s = F := ⟨_, rfl⟩
          rw [hF] at b0
          have HF := Lib.hid (fun _ : True => hF)
          have hbig := HS.out.big
          have hdl := HS.out.doc.len
          have HDO := Lib.hid (tape_do g M (M + 2) s f l vs ao n c F s l (A k) wr.drew (HS.out.tape.grown (grown_drew1 wr)) HS.out.size (HS.out.doc.grown (grown_drew1 wr)) (HS.out.far.kept (Kept.of_grown (grown_drew1 wr))) (hok.grown (grown_drew1 wr))
            ((RX.new ((HA1.out k hlt).ok).b.reads HS.out.grown HS.out.lo).kept (Kept.of_grown (grown_drew1 wr))) HS.out.tape.seg (by have := HALE.out; omega) (by have := HALE.out; omega))
          have HBX := Lib.hid (HS.out.box.grown (grown_drew1 wr))
          clear hok hF hbig hdl
          have i0 : (0 : Int) ≤ (k : Int) := by omega
          have i1 : (k : Int) < (len : Int) := by omega
          go_wp2_with fail
          go_region_law (first
            | (go_simp
               go_at_call 16
               refine HDO.out.mono ?_
               rintro e w5 ⟨a2, n2, c2, vs2, rfl, ht5, hro5, hk5, hs5, hn5, hx5⟩
               have hb5 := HBX.out.keptX hk5 HS.out.bxl.1
               have d0 := hb5.look
               have d1 := hb5.open
               have HF2 := Lib.hid (show PlaySt w1 g M (M + 2) s bx (k + 1) (actF s f l (A k).k (A k).n) (actL s f l (A k).k (A k).n (A k).b) vs2 a2 n2 c2 (((w5.setCell ⟨bx, 0, none⟩ (.slice a2 n2 c2)).setCell ⟨bx, 1, none⟩ (.int .i64 ((docF F s l (A k).k (A k).n : Nat) : Int))).setCell ⟨bx, 2, none⟩ (.int .i64 (s : Int))) from by
                 have hF := HF.out trivial
                 subst hF
                 exact HS.out.next (grown_drew1 wr) (HA1.out k hlt).ok HALE.out ht5 hro5 hk5 hs5 hn5 hx5 (hb5.set3 _ _ _) (grow3 _ _ _ _ _))
               clear ht5 hro5 hk5 hs5 hn5 hx5))
          all_goals (
            clear hb5 b0 b1
            go_wp2_with fail
            exact ⟨⟨k + 1, _, _, vs2, a2, n2, c2, by omega, by go_num, HF2.out⟩, by simp only [intOf]; omega⟩)
        · obtain rfl : k = len := by omega
          clear HST
          go_wp2_with fail
          refine (tape_copy g M (M + 2) s f l vs wr HS.out.tape).mono ?_
          rintro e w6 ⟨g2, M2, B2, us, rfl, ht6, hg6l, hM6l, hB6, hro6, hgr6⟩
          have HS6 := Lib.hid (HS.out.later hgr6)
          have HT6 := Lib.hid ht6
          have hlo6 : ∀ q, TX g2 M2 us q → wr.heap.size ≤ q := fun q hq => by
            rcases hq with e | e | ⟨v, hv, e⟩
            · omega
            · omega
            · rcases hro6 v hv q e with ⟨u, hu, _⟩ | h2
              · cases hu
              · exact h2
          have HLO6 := Lib.hid hlo6
          have hlow := HS.out.tape.far
          have hdis : ∀ q, TX g M vs q → ¬ TX g2 M2 us q := fun q h1 h2 => by have := hlow q h1; have := hlo6 q h2; omega
          have HDIS := Lib.hid hdis
          have hx6 : RX w6 (TX g2 M2 us) ao l := RX.of_rb HS6.out.doc.rb (fun ad e hne hk => by
            have h1 := HS.out.doc.low e hne
            have h2 := hlo6 _ hk
            omega)
          have HX6 := Lib.hid hx6
          have HB6 := Lib.hid hB6
          obtain ⟨F, hF⟩ : ∃ F, f * s = F := ⟨_, rfl⟩
          have hbx6 := HS6.out.box
          rw [hF] at hbx6
          have HF := Lib.hid (fun _ : True => hF)
          have hp1 := HB1.out.grown HS6.out.grown
          have hp2 := HB2.out.grown HS6.out.grown
          have y0 := hbx6.look
          have y1 := hp1.look
          have y2 := hp2.look
          have HBX6 := Lib.hid hbx6; have HP2 := Lib.hid hp2
          have hPk := HPQ.out.1.grown HG1.out
          have hQk := HPQ.out.2.grown HG1.out
          have hP6 := hPk.grown HS6.out.grown
          have hQ6 := hQk.grown HS6.out.grown
          have hPx := RX.new hPk.b.reads HS6.out.grown HS6.out.lo
          have HQX1 := Lib.hid (RX.new (X := TX g M vs) hQk.b.reads HS6.out.grown HS6.out.lo)
          have HQX2 := Lib.hid (RX.new (X := TX g2 M2 us) hQk.b.reads HS6.out.grown (fun q hq => Nat.le_trans HS.out.grown.size (hlo6 q hq)))
          have HQ6 := Lib.hid hQ6
          have hbig := HS.out.big
          have hdl := HS.out.doc.len
          have HDO := Lib.hid (tape_do g M (M + 2) s f l vs ao n c F s l P w6 HS6.out.tape HS6.out.size HS6.out.doc HS6.out.far hP6 hPx HS.out.tape.seg (by have := HPL.out; omega) (by have := HPL.out; omega))
          have hpn : ¬ TX g M vs (w.heap.size + 1) ∧ ¬ TX g2 M2 us (w.heap.size + 1) := by
            have h1 := HB2.out.lt
            exact ⟨fun e => by have := HS6.out.lo _ e; omega, fun e => by have := hlo6 _ e; have := HS.out.grown.size; omega⟩
          have HPN := Lib.hid hpn
          clear b0 b1 ht6 hg6l hM6l hB6 hro6 hlo6 hlow hdis hx6 hF hbx6 hp1 hp2 hPk hQk hP6 hQ6 hPx hbig hdl hpn
          go_wp2_with fail
          refine HDO.out.mono ?_
          rintro e w7 ⟨a2, n2, c2, vs2, rfl, ht7, hro7, hk7, hs7, hn7, hx7⟩
          have hs1 : 1 ≤ s := by have := HS.out.tape.seg.1; omega
          have hbig := HS.out.big
          have hagP : docF F s l P.k P.n = actF s f l P.k P.n * s ∧ docL F s l P.k P.n P.b = actL s f l P.k P.n P.b := by
            have hF := HF.out trivial
            subst hF
            exact act_agree s f l P.b P.k P.n hs1
          have hagQ : docF F s l Q.k Q.n = actF s f l Q.k Q.n * s ∧ docL F s l Q.k Q.n Q.b = actL s f l Q.k Q.n Q.b := by
            have hF := HF.out trivial
            subst hF
            exact act_agree s f l Q.b Q.k Q.n hs1
          have hendP := act_end s f l P.b P.k P.n hs1
          have hendQ := act_end s f l Q.b Q.k Q.n hs1
          have hbP : P.b.length ≤ 600 := by rw [HPQ.out.1.b.len_eq]; exact HPL.out.1
          have hbQ : Q.b.length ≤ 600 := by rw [HPQ.out.2.b.len_eq]; exact HPL.out.2
          rw [hagP.2] at hs7 hn7 hx7
          obtain ⟨FP, hFP⟩ : ∃ z, docF F s l P.k P.n = z := ⟨_, rfl⟩
          obtain ⟨fP, hfP⟩ : ∃ z, actF s f l P.k P.n = z := ⟨_, rfl⟩
          obtain ⟨lP, hlP⟩ : ∃ z, actL s f l P.k P.n P.b = z := ⟨_, rfl⟩
          rw [hFP]
          rw [hfP, hlP] at ht7 hendP
          rw [hlP] at hs7 hn7 hx7
          rw [hFP, hfP] at hagP
          have HAG := Lib.hid (fun _ : True => hagP.1)
          have HBP := Lib.hid (show fP * s + lP.length ≤ 1099511627776 by omega)
          have HBQ := Lib.hid (show actF s f l Q.k Q.n * s + (actL s f l Q.k Q.n Q.b).length ≤ 1099511627776 by omega)
          have HAQ := Lib.hid (fun _ : True => hagQ)
          have hfar6 := HT6.out.far
          have hu7 := HT6.out.keptX hk7 (fun q h1 h2 => HDIS.out q h2 h1)
          have hd7 := HS6.out.doc.keptX HS6.out.far hk7
          have hxd7 : RX w7 (TX g2 M2 us) ao l := HX6.out.re hd7.rb
          have hq7 : Q.ok w7 := ⟨HQ6.out.b.keptX HQX1.out hk7, HQ6.out.k, HQ6.out.n⟩
          have hqx7 : RX w7 (TX g2 M2 us) Q.a Q.b := HQX2.out.re hq7.b.reads
          have hbx7 := HBX6.out.keptX hk7 HS.out.bxl.1
          have hp7 := HP2.out.keptX hk7 HPN.out.1
          have hg8 := World.grownBy_alloc w7 (.cells #[.slice a2 n2 c2, .int .i64 (FP : Int), .int .i64 (s : Int)] 29) none
          have hy8 := Box.new w7 29 [.slice a2 n2 c2, .int .i64 (FP : Int), .int .i64 (s : Int)] w7.heap.size rfl
          have z0 := (hbx7.grown hg8).look
          have z2 := (hp7.grown hg8).look
          obtain ⟨w8, hw8⟩ : ∃ w8, w7.alloc (.cells #[.slice a2 n2 c2, .int .i64 (FP : Int), .int .i64 (s : Int)] 29) = w8 := ⟨_, rfl⟩
          have hy8' : Box w8 w7.heap.size 29 [.slice a2 n2 c2, .int .i64 (FP : Int), .int .i64 (s : Int)] := by rw [← hw8]; exact hy8
          rw [hw8] at hg8
          have HW8 := Lib.hid (fun _ : True => hw8)
          have hsz6 := hk7.size
          have hsz8 := hg8.size
          have hdl := HS6.out.doc.len
          have HU8 := Lib.hid (hu7.grown hg8)
          have HB8 := HB6.out
          have HDO8 := Lib.hid (tape_do g2 M2 B2 s f l us ao n c F s l Q w8 (hu7.grown hg8) (by omega) (hd7.grown hg8) (hxd7.kept (Kept.of_grown hg8)) (hq7.grown hg8) (hqx7.kept (Kept.of_grown hg8)) HS.out.tape.seg (by have := HPL.out; omega) (by have := HPL.out; have := HF.out trivial; omega))
          have HT8 := Lib.hid (ht7.grown hg8)
          have HR7 := Lib.hid hro7
          have HY8 := Lib.hid hy8'
          have HS8 := Lib.hid (hs7.grown hg8)
          have HYX := Lib.hid (hn7.rx HX6.out hfar6 (hs7.grown hg8).rb)
          have HNX := Lib.hid (show ¬ TX g2 M2 us w7.heap.size from fun e => by have := hfar6 _ e; omega)
          have HDS8 := Lib.hid (show ∀ q, TX g M vs2 q → ¬ TX g2 M2 us q from fun q h1 h2 => by
            rcases TX_rows hro7 q h1 with e | e
            · exact HDIS.out q e h2
            · have := hfar6 _ h2; omega)
          have hgB : Below w1.heap.size w1 w8 := (below_of_grown (below_of_kept (grown_below HS6.out.grown) hk7 HS6.out.lo) hg8)
          have HGB := Lib.hid hgB
          clear hs1 hbig hagP hagQ hendP hendQ hbP hbQ hFP hfP hlP hfar6 hu7 hd7 hxd7 hq7 hqx7 hbx7 hp7 hg8 hy8 hw8 hy8' hsz6 hsz8 hdl HB8 ht7 hro7 hk7 hs7 hn7 hx7 y0 y1 y2 hgB
          go_wp2_with fail
          rw [HW8.out trivial]
          refine HDO8.out.mono ?_
          rintro e w9 ⟨a3, n3, c3, vs3, rfl, ht9, hro9, hk9, hs9, hn9, hx9⟩
          obtain ⟨FQ, hFQ⟩ : ∃ z, docF F s l Q.k Q.n = z := ⟨_, rfl⟩
          have haq := HAQ.out trivial
          have hbq := HBQ.out
          obtain ⟨fQ, hfQ⟩ : ∃ z, actF s f l Q.k Q.n = z := ⟨_, rfl⟩
          obtain ⟨lQ, hlQ⟩ : ∃ z, actL s f l Q.k Q.n Q.b = z := ⟨_, rfl⟩
          rw [haq.2] at hs9 hn9 hx9
          rw [hFQ]
          rw [hfQ, hlQ] at ht9 hbq
          rw [hlQ] at hs9 hn9 hx9
          rw [hFQ, hfQ] at haq
          have ht9t := HT8.out.keptX hk9 HDS8.out
          have hsy9 := HS8.out.keptX HYX.out hk9
          have hyb9 := HY8.out.keptX hk9 HNX.out
          have hg10 := World.grownBy_alloc w9 (.cells #[.slice a3 n3 c3, .int .i64 (FQ : Int), .int .i64 (s : Int)] 29) none
          have hz10 := Box.new w9 29 [.slice a3 n3 c3, .int .i64 (FQ : Int), .int .i64 (s : Int)] w9.heap.size rfl
          have z0 := (hyb9.grown hg10).look
          obtain ⟨w10, hw10⟩ : ∃ w10, w9.alloc (.cells #[.slice a3 n3 c3, .int .i64 (FQ : Int), .int .i64 (s : Int)] 29) = w10 := ⟨_, rfl⟩
          have hz10' : Box w10 w9.heap.size 29 [.slice a3 n3 c3, .int .i64 (FQ : Int), .int .i64 (s : Int)] := by rw [← hw10]; exact hz10
          rw [hw10] at hg10
          have HW10 := Lib.hid (fun _ : True => hw10)
          have HS1 := Lib.hid (tape_same g M (M + 2) s fP lP vs2 a2 n2 c2 0 w10 (ht9t.grown hg10) (hsy9.grown hg10) HBP.out (by omega))
          rw [← HAG.out trivial] at HS1
          have HS2 := Lib.hid (fun u (hu : w10.grownBy u none) => tape_same g2 M2 B2 s fQ lQ vs3 a3 n3 c3 0 u ((ht9.grown hg10).grown hu) ((hs9.grown hg10).grown hu) hbq (by omega))
          rw [← haq.1] at HS2
          have HZ := Lib.hid hz10'
          have HGC := Lib.hid (below_of_grown (below_of_kept HGB.out hk9 (fun q hq => Nat.le_trans HS.out.grown.size (HLO6.out q hq))) hg10)
          clear hFQ haq hbq hfQ hlQ ht9 hro9 hk9 hs9 hn9 hx9 ht9t hsy9 hyb9 hg10 hz10 hw10 hz10' z2
          go_wp2_with fail
          rw [HW10.out trivial]
          refine HS1.out.mono ?_
          rintro e w11 ⟨rfl, hg11⟩
          have HG11 := Lib.hid hg11
          have z1 := (HZ.out.grown hg11).look
          clear hg11 z0
          go_wp2_with fail
          refine (HS2.out w11 HG11.out).mono ?_
          rintro e w12 ⟨rfl, hg12⟩
          have HG12 := Lib.hid hg12
          clear hg12 z1
          go_wp2_with fail
          refine (tape_works w12).mono ?_
          rintro e w13 ⟨rfl, hb⟩
          have HB := Lib.hid hb; clear hb
          go_wp2_with fail
          go_ret
          refine ⟨rfl, grown_below (grown_trans (grown_trans HG1.out (grown_of_below HGC.out)) (grown_trans (grown_trans HG11.out HG12.out) (grown_of_below HB.out)))⟩

end Go.Proofs.Ytfmcbnoldcfcbaa
