/-
  VolMends.
-/
import Derived.Test.YtnikeceeclfnpaaVolPlays
namespace Go.Proofs.Ytnikeceeclfnpaa
open Go.RowKit Go.ChangeShapes Go.WideShapes Go.ChangeAt

theorem open_act {H : Type} {enc : TypeId × Value → H} {W : World} {base : Nat} {v : Value} {d : DataW H} {p : List MemPlace}
    (hval : Value.okWide Try.prog W .any base 35 v) (h : DataW.Trod enc Try.prog W 0 (fun _ => true) true 35 v d p) :
    ∃ (i : Int) (a : Option Addr) (len cap : Nat) (b : List UInt8) (t : Bool) (n : Int), v = .agg #[.int .i64 i, .slice a len cap, .bool t, .int .i64 n] ∧ InB W a len cap b := by
  obtain ⟨cs, rfl, hsz⟩ := okWide_struct Try.underlying35 hval
  obtain ⟨fuel, hf⟩ := h
  obtain ⟨A, hA, hok⟩ := act_of hf
  refine ⟨A.i, A.a, A.len, A.cap, A.b, A.t, A.n, ?_, hok⟩
  simp only [Value.cells] at hA
  obtain ⟨l⟩ := cs
  simp only at hA
  rw [show l = A.cells from hA]
  rfl

theorem splice_splice {L c1 c2 : List UInt8} {lo : Nat} (h : c1.length ≤ c2.length) (hl : lo + c2.length ≤ L.length) : splice (splice L lo c1) lo c2 = splice L lo c2 := by
  have h1 := length_splice L lo c1 (by omega)
  refine List.ext_getElem? fun m => ?_
  rw [splice_get _ _ _ _ (by omega), splice_get _ _ _ _ (by omega), splice_get _ _ _ _ (by omega)]
  split
  · rfl
  · split
    · rfl
    · rw [if_neg (by omega)]

/-- a block that is torn, and put whole then, is as if it had not been torn -/
theorem tear_mend {nb sz N : Nat} {L : List UInt8} (hN : nb * sz = N) (hL : L.length = N) (i : Int) (a b : List UInt8) (n : Int) :
    (tearV nb sz (tearV nb sz L i a n).1 i b sz).2 = (tearV nb sz L i b sz).2 ∧ ((tearV nb sz L i b sz).2 = 0 → (tearV nb sz (tearV nb sz L i a n).1 i b sz).1 = (tearV nb sz L i b sz).1) := by
  unfold tearV
  by_cases h1 : i < 0 ∨ (nb : Int) ≤ i
  · simp only [if_pos h1]; exact ⟨trivial, fun _ => trivial⟩
  · simp only [if_neg h1]
    by_cases h2 : sz < b.length
    · simp only [if_pos h2]; exact ⟨trivial, fun h => by omega⟩
    · simp only [if_neg h2]
      refine ⟨trivial, fun _ => ?_⟩
      by_cases h3 : sz < a.length
      · simp only [if_pos h3]
      · simp only [if_neg h3]
        obtain ⟨j, rfl⟩ : ∃ j : Nat, i = j := ⟨i.toNat, by omega⟩
        have hj := mul_step hN (show j < nb by omega)
        have hw : ∀ c : List UInt8, c.length ≤ sz → (whole sz c).length = sz := fun c hc => by unfold whole; simp; omega
        have hc : clampN (sz : Int) sz = sz := by unfold clampN; omega
        have hk : clampN n sz ≤ sz := by unfold clampN; omega
        unfold tearL
        rw [hc]
        exact splice_splice (by rw [List.length_take, List.length_take, hw a (by omega), hw b (by omega)]; omega) (by rw [List.length_take, hw b (by omega), Int.toNat_natCast]; omega)

theorem ActAt.grown {w w' : World} {a : Option Addr} {i : Nat} {A : ActV} (h : ActAt w a i A) (hg : w.grownBy w' none) : ActAt w' a i A := by
  obtain ⟨b, o, e, c0, c1, c2, c3, hok⟩ := h
  exact ⟨b, o, e, grown_cell hg c0, grown_cell hg c1, grown_cell hg c2, grown_cell hg c3, ⟨hok.len_eq, hok.cap_le, hok.max, hok.nil, hok.reads.oldg hg⟩⟩

set_option maxHeartbeats 3200000 in
theorem volMends_walk (a : Option Addr) (len cap : Nat) (A : Nat → ActV) (w : World) (hl : len ≤ maxLen) (hA : ∀ i, i < len → ActAt w a i (A i))
    (i1 : Int) (a1 : Option Addr) (len1 cap1 : Nat) (b1 : List UInt8) (t1 : Bool) (n1 : Int) (h1 : InB w a1 len1 cap1 b1)
    (i2 : Int) (a2 : Option Addr) (len2 cap2 : Nat) (b2 : List UInt8) (t2 : Bool) (n2 : Int) (h2 : InB w a2 len2 cap2 b2) :
    Calls Try.prog 5 #[.slice a len cap, .agg #[.int .i64 i1, .slice a1 len1 cap1, .bool t1, .int .i64 n1], .agg #[.int .i64 i2, .slice a2 len2 cap2, .bool t2, .int .i64 n2]] w
      fun e w' => e = .returned (.bool true) ∧ Below w.heap.size w w' := by
  have HA := Lib.hid hA; have HL := Lib.hid hl
  have H1 := Lib.hid h1; have H2 := Lib.hid h2
  clear hA hl h1 h2
  have hg0 := grown_trans (World.grownBy_alloc w (.cells #[.int .i64 i1, .slice a1 len1 cap1, .bool t1, .int .i64 n1] 35) none) (World.grownBy_alloc _ (.cells #[.int .i64 i2, .slice a2 len2 cap2, .bool t2, .int .i64 n2] 35) none)
  have hb1 := (Box.new w 35 [.int .i64 i1, .slice a1 len1 cap1, .bool t1, .int .i64 n1] w.heap.size rfl).alloc (.cells #[.int .i64 i2, .slice a2 len2 cap2, .bool t2, .int .i64 n2] 35)
  have hb2 := Box.new (w.alloc (.cells #[.int .i64 i1, .slice a1 len1 cap1, .bool t1, .int .i64 n1] 35)) 35 [.int .i64 i2, .slice a2 len2 cap2, .bool t2, .int .i64 n2] (w.heap.size + 1) (by simp)
  go_enter Try.func5, Try.ntmps5
  go_wp2_with fail
  generalize (w.alloc (.cells #[.int .i64 i1, .slice a1 len1 cap1, .bool t1, .int .i64 n1] 35)).alloc (.cells #[.int .i64 i2, .slice a2 len2 cap2, .bool t2, .int .i64 n2] 35) = w0 at *
  have hA0 : ∀ i, i < len → ActAt w0 a i (A i) := fun i hi => (HA.out i hi).grown hg0
  have hs0 : w.heap.size + 2 ≤ w0.heap.size := hb2.lt
  refine (vol_few w0 a len cap A HL.out hA0).mono ?_
  rintro e w1 ⟨f, rfl, hg1, hf⟩
  have HG1 := Lib.hid (grown_trans hg0 hg1)
  have B1 := Lib.hid (hb1.grown hg1); have B2 := Lib.hid (hb2.grown hg1)
  have hs1 : w0.heap.size ≤ w1.heap.size := hg1.size
  clear hg1 hg0 hb1 hb2 hA0
  have x0 := B1.out.cell 0 rfl
  have x1 := B1.out.cell 1 rfl
  have x2 := B1.out.cell 2 rfl
  have x3 := B1.out.cell 3 rfl
  have y0 := B2.out.cell 0 rfl
  have y1 := B2.out.cell 1 rfl
  have y2 := B2.out.cell 2 rfl
  have y3 := B2.out.cell 3 rfl
  cases f
  · go_wp2_with fail
    refine (vol_works w1).mono ?_
    rintro e w2 ⟨rfl, hb⟩
    have HB := Lib.hid hb; clear hb
    go_wp2_with fail
    go_ret
    exact ⟨rfl, grown_below (grown_trans HG1.out (grown_of_below HB.out))⟩
  · have h30 := hf rfl
    clear hf
    go_wp2_with fail
    have hga := World.grownBy_alloc w1 (.cells #[.int .i64 i1, .slice a1 len1 cap1, .bool t1, .int .i64 n1, .int .i64 i2, .slice a2 len2 cap2, .bool t2, .int .i64 n2] 35) none
    have hbb := Box.new w1 35 [.int .i64 i1, .slice a1 len1 cap1, .bool t1, .int .i64 n1, .int .i64 i2, .slice a2 len2 cap2, .bool t2, .int .i64 n2] w1.heap.size rfl
    have hgw := grown_trans HG1.out hga
    have hA2 : ∀ i, i < 2 → ActAt (w1.alloc (.cells #[.int .i64 i1, .slice a1 len1 cap1, .bool t1, .int .i64 n1, .int .i64 i2, .slice a2 len2 cap2, .bool t2, .int .i64 n2] 35)) (some ⟨w1.heap.size, 0, none⟩) i ([⟨i1, a1, len1, cap1, b1, t1, n1⟩, ⟨i2, a2, len2, cap2, b2, t2, n2⟩].getD i default) := by
      intro i hi
      have e1 := H1.out; have e2 := H2.out
      match i, hi with
      | 0, _ => exact ⟨_, _, rfl, hbb.cell 0 rfl, hbb.cell 1 rfl, hbb.cell 2 rfl, hbb.cell 3 rfl, ⟨e1.len_eq, e1.cap_le, e1.max, e1.nil, e1.reads.oldg hgw⟩⟩
      | 1, _ => exact ⟨_, _, rfl, hbb.cell 4 rfl, hbb.cell 5 rfl, hbb.cell 6 rfl, hbb.cell 7 rfl, ⟨e2.len_eq, e2.cap_le, e2.max, e2.nil, e2.reads.oldg hgw⟩⟩
    have BB1 := Lib.hid (B1.out.grown hga); have BB2 := Lib.hid (B2.out.grown hga)
    have HGA := Lib.hid hgw
    clear hbb hgw hga B1 B2 HG1 x0 x1 x2 x3 y0 y1 y2 y3
    refine (vol_few _ _ 2 2 _ (by simp [maxLen]) hA2).mono ?_
    clear hA2
    rintro e w2 ⟨f, rfl, hg2, hf2⟩
    clear hf2
    have HG2 := Lib.hid (grown_trans HGA.out hg2)
    have B1 := Lib.hid (BB1.out.grown hg2); have B2 := Lib.hid (BB2.out.grown hg2)
    have hs2 := hg2.size
    simp only [World.size_alloc] at hs2
    clear hg2 BB1 BB2 HGA
    cases f
    · go_wp2_with fail
      refine (vol_works w2).mono ?_
      rintro e w3 ⟨rfl, hb⟩
      have HB := Lib.hid hb; clear hb
      go_wp2_with fail
      go_ret
      exact ⟨rfl, grown_below (grown_trans HG2.out (grown_of_below HB.out))⟩
    · go_wp2_with fail
      refine (vol_new 5 40 w2).mono ?_
      obtain ⟨sz, hsz⟩ : ∃ sz : Nat, clampN 40 4096 = sz := ⟨_, rfl⟩
      rw [show clampN 5 1024 = 5 from rfl, hsz]
      rintro e w3 ⟨g, h, N, rfl, hv, hg⟩
      have HV := Lib.hid hv; have HG3 := Lib.hid (grown_trans HG2.out hg)
      have hh2 := hv.lt
      have hge := hv.h_ge
      have hgg := hv.g_ge
      have B13 := Lib.hid (B1.out.grown hg); have B23 := Lib.hid (B2.out.grown hg)
      clear hv hg B1 B2 HG2
      go_wp2_with fail
      refine (refv_new 5 40 (fun k => k = h) _ (fun k hk e => by omega)).mono ?_
      rw [show clampN 5 1024 = 5 from rfl, hsz]
      clear hsz
      rintro e w4 ⟨V, rfl, hrv, hg3⟩
      obtain ⟨va, vc, rfl⟩ := hrv.open
      rw [List.length_replicate] at hrv ⊢
      have hp : Pair w4 (fun k => k = h) w2.heap.size g h 5 sz N (List.replicate N 0) (List.replicate 5 (List.replicate sz 0)) _ :=
        ⟨HV.out.grown hg3, hrv, ⟨List.length_replicate, fun i hi => by
          rw [List.length_replicate] at hi
          rw [List.getElem_replicate, blk_zero (mul_step HV.out.mul hi)]⟩, rfl, fun k hk e => by have := hg3.size; omega⟩
      have hvv := vol_var w4 va 5 vc sz
      have P := Lib.hid (hp.and1 w4.heap.size (Nat.le_refl _) hvv.2 (by simp))
      have HG4 := Lib.hid (grown_trans (grown_trans HG3.out hg3) hvv.2)
      have BX := Lib.hid hvv.1
      have hs3 := hg3.size
      have B1 := Lib.hid ((B13.out.grown hg3).grown hvv.2); have B2 := Lib.hid ((B23.out.grown hg3).grown hvv.2)
      clear hp hvv hrv hg3 HV HG3 B13 B23
      go_wp2_with fail
      generalize w4.alloc (.cells #[.slice va 5 vc, .int .i64 sz] 29) = w5 at *
      go_loopw [9] (fun i wr => PlayRel w (And1 (fun k => k = h) w4.heap.size) w2.heap.size g h 5 sz N w4.heap.size len (.bool true) i wr ∧ Box wr w.heap.size 35 [.int .i64 i1, .slice a1 len1 cap1, .bool t1, .int .i64 n1] ∧ Box wr (w.heap.size + 1) 35 [.int .i64 i2, .slice a2 len2 cap2, .bool t2, .int .i64 n2]) (fun i _ => len - (intOf i).toNat)
      case atStart => exact ⟨⟨0, _, _, va, 5, vc, Nat.zero_le _, rfl, rfl, P.out, BX.out, HG4.out⟩, B1.out, B2.out⟩
      case round =>
        clear P BX HG4 B1 B2
        obtain ⟨⟨k, L, bs, va, m, vc, hk, _, rfl, hp, hbx, hgr⟩, hB1, hB2⟩ := hrel
        have P := Lib.hid hp; have BX := Lib.hid hbx; have HGR := Lib.hid hgr; have B1 := Lib.hid hB1; have B2 := Lib.hid hB2
        have b0 := hbx.cell 0 rfl
        have b1' := hbx.cell 1 rfl
        clear hp hbx hgr hB1 hB2
        by_cases hlt : k < len
        · obtain ⟨b, o, rfl, c0, c1, c2, c3, hok⟩ := HA.out k hlt
          have d0 := grown_cell HGR.out c0
          have d1 := grown_cell HGR.out c1
          have d2 := grown_cell HGR.out c2
          have d3 := grown_cell HGR.out c3
          have HOK := Lib.hid (show (A k).b.length = (A k).len ∧ RB wr.drew (A k).a (A k).b from ⟨hok.len_eq, (hok.reads.oldg HGR.out).drew⟩)
          have hdr : wr.grownBy wr.drew none := grown_drew (World.grownBy.refl _ _)
          have HDO := Lib.hid (vol_do (P.out.grown hdr) (A k).i (A k).n (A k).t (A k).a (A k).len (A k).cap (A k).b HOK.out.1 HOK.out.2)
          have BXD := Lib.hid (BX.out.grown hdr)
          have B1D := Lib.hid (B1.out.grown hdr); have B2D := Lib.hid (B2.out.grown hdr)
          clear c0 c1 c2 c3 hok hdr
          have i0 : (0 : Int) ≤ (k : Int) := by omega
          have i1' : (k : Int) < (len : Int) := by omega
          go_wp2_with fail
          go_region_law (first
            | (go_simp; go_at_call 14; refine HDO.out.mono ?_; rintro e w6 ⟨V5, L5, bs5, rfl, hp5, hg5⟩; obtain ⟨va5, vc5, rfl⟩ := hp5.ref.open; have br5 := BXD.out.kept hg5 (by intro e; cases e; omega); have r0 := br5.cell 0 rfl; have r1 := br5.cell 1 rfl; have r2 := br5.free 0; have r3 := br5.free 1; have r4 := fun v => (br5.set 0 v).cell 1 rfl; have r5 := fun v => (br5.set 0 v).free 1))
          all_goals (
            have HR := Lib.hid (playRel_step (bx := w4.heap.size) hlt (.inr rfl) (by omega) (by omega) (by omega) (by omega) hp5 rfl br5 rfl HGR.out hg5)
            have HB1 := Lib.hid ((B1D.out.kept hg5 (by intro e; cases e; omega)).set2 w4.heap.size (by omega) (.slice va5 bs5.length vc5) (.int .i64 sz))
            have HB2 := Lib.hid ((B2D.out.kept hg5 (by intro e; cases e; omega)).set2 w4.heap.size (by omega) (.slice va5 bs5.length vc5) (.int .i64 sz))
            clear r0 r1 r2 r3 r4 r5 br5 hp5 hg5
            go_wp2_with fail
            go_roundw)
          case rel => exact ⟨HR.out, HB1.out, HB2.out⟩
          case measure => simp only [intOf]; omega
          case rel => exact ⟨HR.out, HB1.out, HB2.out⟩
          case measure => simp only [intOf]; omega
        · have hkl : k = len := by omega
          subst hkl
          go_wp2_with fail
          refine (vol_copy P.out.vol).mono ?_
          rintro e w6 ⟨g1, h1, N1, rfl, hu, hg6⟩
          have hlt6 := hu.lt
          have hge1 := hu.h_ge
          have hgg1 := hu.g_ge
          have hwr := P.out.vol.lt
          have HU := Lib.hid hu
          have HV6 := Lib.hid (P.out.vol.grown hg6)
          have HR6 := Lib.hid ((P.out.ref.and1 h1 hge1).grown hg6)
          have HG6 := Lib.hid (grown_trans HGR.out hg6)
          have BX6 := Lib.hid (BX.out.grown hg6); have B16 := Lib.hid (B1.out.grown hg6); have B26 := Lib.hid (B2.out.grown hg6)
          have HMT := Lib.hid P.out.mt
          have hsw := HGR.out.size
          have hs6 := hg6.size
          have hbxl := BX.out.lt
          clear hu hg6 HGR BX B1 B2 b0 b1'
          go_wp2_with fail
          refine (vol_copy HV6.out).mono ?_
          rintro e w7 ⟨g2, h2, N2, rfl, hu, hg7⟩
          have hlt7 := hu.lt
          have hge2 := hu.h_ge
          have hgg2 := hu.g_ge
          have HWS := Lib.hid hu
          have HV7 := Lib.hid (HV6.out.grown hg7); have HU7 := Lib.hid (HU.out.grown hg7)
          have HR7 := Lib.hid (HR6.out.grown hg7)
          have HG7 := Lib.hid (grown_trans HG6.out hg7)
          have BX7 := Lib.hid (BX6.out.grown hg7); have B17 := Lib.hid (B16.out.grown hg7); have B27 := Lib.hid (B26.out.grown hg7)
          clear hu hg7 HG6 HV6 HU HR6 BX6 B16 B26
          have x0 := B17.out.cell 0 rfl
          have x1 := B17.out.cell 1 rfl
          have x3 := B17.out.cell 3 rfl
          have y0 := B27.out.cell 0 rfl
          have y1 := B27.out.cell 1 rfl
          go_wp2_with fail
          clear x0 x1 x3 y0 y1
          refine (vol_tear_any HV7.out i2 n1 a1 len1 cap1 b1 H1.out.len_eq (H1.out.reads.oldg HG7.out)).mono ?_
          rintro e w8 ⟨rfl, hv8, hg8⟩
          have HV8 := Lib.hid hv8
          have HU8 := Lib.hid (HU7.out.kept hg8 (by intro e; cases e; omega) (by intro e; cases e; omega))
          have HW8 := Lib.hid (HWS.out.kept hg8 (by intro e; cases e; omega) (by intro e; cases e; omega))
          have HR8 := Lib.hid (HR7.out.kept (Kept.of_row hg8 (.inl (.inl rfl))))
          have HG8 := Lib.hid (grown_new HG7.out (by omega) hg8)
          have BX8 := Lib.hid (BX7.out.kept hg8 (by intro e; cases e; omega))
          have B28 := Lib.hid (B27.out.kept hg8 (by intro e; cases e; omega))
          have hs8 := hg8.size
          obtain ⟨T, hT⟩ : ∃ T, tearV 5 sz L i2 b1 n1 = T := ⟨_, rfl⟩
          have HM1 := Lib.hid (tear_mend P.out.vol.mul P.out.vol.len i2 b1 b2 n1)
          rw [hT] at HV8 HM1
          simp only [hT]
          clear hv8 hg8 hT HV7 HU7 HWS HR7 HG7 BX7 B17 B27
          have y0 := B28.out.cell 0 rfl
          have y1 := B28.out.cell 1 rfl
          go_wp2_with fail
          have hd : w8.grownBy w8.drew none := grown_drew (World.grownBy.refl _ _)
          have z0 := grown_cell hd y0
          have z1 := grown_cell hd y1
          have HPV := Lib.hid (vol_put_any (HV8.out.grown hd) i2 a2 len2 cap2 b2 H2.out.len_eq ((H2.out.reads.oldg HG8.out).oldg hd))
          have HUD := Lib.hid (HU8.out.grown hd); have HWD := Lib.hid (HW8.out.grown hd); have HRD := Lib.hid (HR8.out.grown hd); have HGD := Lib.hid (grown_trans HG8.out hd); have BXD := Lib.hid (BX8.out.grown hd); have B2D := Lib.hid (B28.out.grown hd)
          have HR2 := Lib.hid (H2.out.reads)
          obtain ⟨Ev, hEv⟩ : ∃ Z, tearV 5 sz T.1 i2 b2 sz = Z := ⟨_, rfl⟩
          obtain ⟨Eu, hEu⟩ : ∃ T, tearV 5 sz L i2 b2 sz = T := ⟨_, rfl⟩
          rw [hEv, hEu] at HM1
          rw [hEv] at HPV
          clear hd HV8 HU8 HW8 HR8 HG8 BX8 B28 y0 y1 hEv
          go_region_held_law (fun w' => w'.cell? ⟨w.heap.size + 1, 0, none⟩ = some (.int .i64 i2) ∧ w'.cell? ⟨w.heap.size + 1, 1, none⟩ = some (.slice a2 len2 cap2))
            (first | (refine ⟨?_, ?_⟩ <;> assumption) | fail)
            (first
              | (go_at_call_of 20 (Value.pointer (some ⟨g, 0, none⟩)); refine HPV.out.mono ?_; rintro e w9 ⟨rfl, hv9, hg9⟩; have hg9' := grown_new HGD.out (by omega) hg9; have hb9 := B2D.out.kept hg9 (by intro e; cases e; omega); have q0 := hb9.cell 0 rfl; have q1 := hb9.cell 1 rfl; have hu9 := HUD.out.kept hg9 (by intro e; cases e; omega) (by intro e; cases e; omega))
              | (go_at_call_of 20 (Value.pointer (some ⟨g1, 0, none⟩)); refine (vol_put_any hu9 i2 a2 len2 cap2 b2 H2.out.len_eq (HR2.out.oldg hg9')).mono ?_; rw [hEu]; rintro e w10 ⟨rfl, hu10, hg10⟩; have hb10 := hb9.kept hg10 (by intro e; cases e; omega); have p0 := hb10.cell 0 rfl; have p1 := hb10.cell 1 rfl))
          have HV10 := Lib.hid (hv9.kept hg10 (by intro e; cases e; omega) (by intro e; cases e; omega))
          have HU10 := Lib.hid hu10
          have HW10 := Lib.hid ((HWD.out.kept hg9 (by intro e; cases e; omega) (by intro e; cases e; omega)).kept hg10 (by intro e; cases e; omega) (by intro e; cases e; omega))
          have HR10 := Lib.hid ((HRD.out.kept (Kept.of_row hg9 (.inl (.inl rfl)))).kept (Kept.of_row hg10 (.inr rfl)))
          have HG10 := Lib.hid (grown_new hg9' (by omega) hg10)
          have BX10 := Lib.hid ((BXD.out.kept hg9 (by intro e; cases e; omega)).kept hg10 (by intro e; cases e; omega))
          clear hv9 hg9 hg9' hb9 q0 q1 hu9 hu10 hg10 hb10 p0 p1 HPV HUD HWD HRD HGD BXD B2D z0 z1 hEu
          have hee := HM1.out.1
          rw [hee]
          have x0 := BX10.out.cell 0 rfl
          have x1 := BX10.out.cell 1 rfl
          clear hee
          go_wp2_with fail
          clear x0 x1 BX10
          refine (vol_same HW10.out _ HR10.out HMT.out.1 HMT.out.2).mono ?_
          rintro e w11 ⟨rfl, hg11⟩
          have HV11 := Lib.hid (HV10.out.grown hg11); have HU11 := Lib.hid (HU10.out.grown hg11); have HG11 := Lib.hid (grown_trans HG10.out hg11)
          clear hg11 HV10 HU10 HW10 HR10 HG10
          go_wp2_with fail
          generalize hE2 : Eu.2 = E2 at *
          go_loopw [14] (fun i wr => ∃ k : Nat, k ≤ 5 ∧ i = .int .i64 k ∧ w11.grownBy wr none) (fun i _ => 5 - (intOf i).toNat)
          case atStart => exact ⟨0, Nat.zero_le _, rfl, World.grownBy.refl _ _⟩
          case round =>
            obtain ⟨k, hk, rfl, hgr⟩ := hrel
            have HV12 := Lib.hid (HV11.out.grown hgr); have HU12 := Lib.hid (HU11.out.grown hgr); have HGR := Lib.hid hgr
            clear hgr
            by_cases hlt : k < 5
            · have i0 : (0 : Int) ≤ (k : Int) := by omega
              by_cases h0 : E2 = 0
              · subst h0
                have hd : wr.grownBy wr.drew none := grown_drew (World.grownBy.refl _ _)
                have hEE := HM1.out.2
                have hEE := hEE rfl
                obtain ⟨q, hq⟩ : ∃ q, blk sz k Eu.1 = q := ⟨_, rfl⟩
                have HCV := Lib.hid (fun u (hu : wr.grownBy u none) => vol_block_in (HV12.out.grown hu) k hlt)
                have HCU := Lib.hid (fun u (hu : wr.grownBy u none) => vol_block_in (HU12.out.grown hu) k hlt)
                rw [hEE, hq] at HCV
                rw [hq] at HCU
                clear hEE hq
                go_wp2_with fail
                go_region_held_law (fun _ => True)
                  (trivial)
                  (first
                    | (go_at_call_of 21 (Value.pointer (some ⟨g, 0, none⟩)); refine (HCV.out _ hd).mono ?_; rintro e w13 ⟨a5, n5, c5, rfl, hn5, hr5, _, hg5⟩; have hg6 := grown_trans hd hg5; have k4 := string_bytes a5 n5 c5 q w13 hr5 hn5)
                    | (go_at_call_of 21 (Value.pointer (some ⟨g1, 0, none⟩)); refine (HCU.out _ hg6).mono ?_; rintro e w14 ⟨a6, n6, c6, rfl, hn6, hr6, _, hg7⟩; have hg8 := grown_trans hg6 hg7; have k5 := string_bytes a6 n6 c6 q w14 hr6 hn6; have k6 := string_bytes a5 n5 c5 q w14 (hr5.oldg hg7) hn5))
                all_goals (
                  have HG8 := Lib.hid hg8
                  clear hg8 hg7 hg6 hg5 hn5 hr5 hn6 hr6 k4 k5 k6
                  go_wp2_with fail
                  go_roundw)
                case rel => exact ⟨k + 1, by omega, by go_num, grown_trans HGR.out HG8.out⟩
                case measure => simp only [intOf]; omega
                case rel => exact ⟨k + 1, by omega, by go_num, grown_trans HGR.out HG8.out⟩
                case measure => simp only [intOf]; omega
                case rel => exact ⟨k + 1, by omega, by go_num, grown_trans HGR.out HG8.out⟩
                case measure => simp only [intOf]; omega
              · have i9 : (E2 == (0 : Int)) = false := by simpa using h0
                have i8 : decide (E2 = 0) = false := by simpa using h0
                go_wp2_with fail
                go_quiet (fail)
                have HG8 := Lib.hid (grown_trans HGR.out (grown_drewN wr nq))
                generalize wr.drewN nq = w13 at *
                go_wp2_with fail
                go_roundw
                case rel => exact ⟨k + 1, by omega, by go_num, HG8.out⟩
                case measure => simp only [intOf]; omega
            · obtain rfl : k = 5 := by omega
              go_wp2_with fail
              refine (vol_works wr).mono ?_
              rintro e w15 ⟨rfl, hb⟩
              have HB := Lib.hid hb; clear hb
              go_wp2_with fail
              go_ret
              exact ⟨rfl, grown_below (grown_trans (grown_trans HG11.out HGR.out) (grown_of_below HB.out))⟩
end Go.Proofs.Ytnikeceeclfnpaa
