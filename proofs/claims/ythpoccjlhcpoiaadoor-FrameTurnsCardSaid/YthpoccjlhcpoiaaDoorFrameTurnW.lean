/-
  FrameTurns: the walk.
-/
import Derived.Test.YthpoccjlhcpoiaaDoorFrameTurns
import Derived.Deep.Strs
import Derived.Laws.BitsAllLaws
namespace Go.Proofs.YthpoccjlhcpoiaaDoor
open Go.RowKit Go.ChangeShapes Go.WideShapes Go.ChangeAt Go.Deep

theorem turn_cells : Tryd.prog.cellsOf 49 = 3 := by kernel_rfl
theorem list3 {α : Type} {cs : List α} (h : cs.length = 3) : ∃ c0 c1 c2, cs = [c0, c1, c2] := by
  match cs, h with
  | [c0, c1, c2], _ => exact ⟨c0, c1, c2, rfl⟩
theorem open_turn {H : Type} {enc : TypeId × Value → H} {W : World} {base : Nat} {v : Value} {d : DataW H} {p : List MemPlace}
    (hval : Value.okWide Tryd.prog W .any base 49 v) (h : DataW.Trod enc Tryd.prog W 0 (fun _ => true) true 49 v d p) :
    ∃ (f a b : Int), v = .agg #[.int .u8 f, .int .u16 a, .int .u32 b] ∧ (0 ≤ f ∧ f ≤ 255) ∧ (0 ≤ a ∧ a ≤ 65535) ∧ (0 ≤ b ∧ b ≤ 4294967295) := by
  obtain ⟨cs, rfl, hsz⟩ := okWide_struct Tryd.underlying49 hval
  obtain ⟨fuel, hf⟩ := h
  obtain ⟨y0, y1, y2, m, _, hl, u0, u1, u2⟩ := trod_struct3 Tryd.underlying49 hf
  rw [turn_cells] at hl
  obtain ⟨c0, c1, c2, hcs⟩ := list3 hl
  rw [hcs] at u0 u1 u2
  have k1 : Tryd.prog.cellsOf 5 = 1 := by kernel_rfl
  have k2 : Tryd.prog.cellsOf 42 = 1 := by kernel_rfl
  have k3 : Tryd.prog.cellsOf 47 = 1 := by kernel_rfl
  simp only [k1, k2, k3, List.drop, List.take] at u0 u1 u2
  obtain ⟨i, hi, wi⟩ := DataW.trod_int Tryd.underlying5 u0
  obtain ⟨z, hz, wz⟩ := DataW.trod_int Tryd.underlying42 u1
  obtain ⟨q, hq, wq⟩ := DataW.trod_int Tryd.underlying47 u2
  simp only [List.cons.injEq, and_true] at hi hz hq
  subst hi hz hq
  have b0 : 0 ≤ i ∧ i ≤ 255 := by simpa [Lit.wf, IntKind.min, IntKind.max, IntKind.signed, IntKind.bits] using wi.2
  have b1 : 0 ≤ z ∧ z ≤ 65535 := by simpa [Lit.wf, IntKind.min, IntKind.max, IntKind.signed, IntKind.bits] using wz.2
  have b2 : 0 ≤ q ∧ q ≤ 4294967295 := by simpa [Lit.wf, IntKind.min, IntKind.max, IntKind.signed, IntKind.bits] using wq.2
  refine ⟨i, z, q, ?_, b0, b1, b2⟩
  obtain ⟨l⟩ := cs
  simp only [Value.cells] at hcs
  rw [show l = [.int .u8 i, .int .u16 z, .int .u32 q] from hcs]

theorem InB.grown {w w' : World} {a : Option Addr} {len cap : Nat} {l : List UInt8} (h : InB w a len cap l) (hg : w.grownBy w' none) : InB w' a len cap l := ⟨h.len_eq, h.cap_le, h.max, h.nil, h.reads.old (grown_below hg)⟩
theorem SliceAt.grown {w w' : World} {a : Option Addr} {i : Nat} {A : SliceV} (h : SliceAt w a i A) (hg : w.grownBy w' none) : SliceAt w' a i A := by
  obtain ⟨b, o, e, hc, hi⟩ := h
  exact ⟨b, o, e, grown_cell hg hc, hi.grown hg⟩

theorem RVB.now {w : World} {a : Option Addr} {bs : List (List UInt8)} (h : RVB w (fun _ => False) a bs) : RVB w (fun q => w.heap.size ≤ q) a bs := by
  intro i hi
  obtain ⟨b, o, e, _, a', n, c, hc, hn, hr⟩ := h i hi
  refine ⟨b, o, e, fun h => ?_, a', n, c, hc, hn, fun j hj => ?_⟩
  · have := World.block_lt_of_cell? w _ hc; simp only at this; omega
  · obtain ⟨b', o', e', _, hc'⟩ := hr j hj
    exact ⟨b', o', e', fun h => by have := World.block_lt_of_cell? w _ hc'; simp only at this; omega, hc'⟩
/-- what holds ahead of each of the 32 bits -/
def TurnRel (w : World) (B : Nat) (ps : List (List UInt8)) (k : Nat) (p : List UInt8) (k0 : Nat) (vb : Value) (aP : Option Addr) (cs : List Value) (t i : Value) (wr : World) : Prop :=
  ∃ (ti ii : Nat) (c : List UInt8) (E : R), ii ≤ 32 ∧ i = .int .i64 ii ∧ t = .int .i64 ti ∧ OwnB wr B vb (withC ps k p c) ∧ Turned p k0 ii c ti E ∧ (ti = 0 → c = p) ∧ Box wr w.heap.size 49 cs ∧ RVB wr (fun q => B ≤ q) aP ps ∧ w.grownBy wr none
theorem pow8 : ∀ r : Fin 8, ((2 : Int) ^ r.val % 256) = (((1 : UInt8) <<< UInt8.ofNat r.val).toNat : Int) := by decide
theorem bits8_nat (a b : UInt8) : bits .xor .u8 (a.toNat : Int) (b.toNat : Int) = ((a ^^^ b).toNat : Int) := by
  rw [u8_xor_nat _ _ a.toNat_lt b.toNat_lt, UInt8.toNat_xor]
theorem turn_byte (x : UInt8) (K : Nat) : bits .xor .u8 (x.toNat : Int) ((2 : Int) ^ (K % 8) % 256) = ((x ^^^ (1 <<< UInt8.ofNat (K % 8))).toNat : Int) := by
  have h : K % 8 < 8 := by omega
  have := pow8 ⟨K % 8, h⟩
  simp only at this
  rw [this, bits8_nat]

set_option maxRecDepth 100000 in
set_option maxHeartbeats 3200000 in
theorem frameTurns_walk (a : Option Addr) (len cap : Nat) (A : Nat → SliceV) (fr at0 bits0 : Int) (w : World) (hf : 0 ≤ fr ∧ fr ≤ 255) (ha : 0 ≤ at0 ∧ at0 ≤ 65535) (hl : len ≤ maxLen) (hA : ∀ i, i < len → SliceAt w a i (A i)) (hT : Tab w) :
    Calls Tryd.prog 6 #[.slice a len cap, .agg #[.int .u8 fr, .int .u16 at0, .int .u32 bits0]] w fun r w' => r = .returned (.bool true) ∧ Below w.heap.size w w' := by
  have hga := World.grownBy_alloc w (.cells #[.int .u8 fr, .int .u16 at0, .int .u32 bits0] 49) none
  have hbx := Box.new w 49 [.int .u8 fr, .int .u16 at0, .int .u32 bits0] w.heap.size rfl
  have HT := Lib.hid hT
  have HC := Lib.hid (frame_framed a len cap A _ hl (fun i hi => (hA i hi).grown hga) (hT.grown hga))
  have hfit := goods_fits A (min len 12)
  have hfew := goods_length A (min len 12)
  generalize goods A (min len 12) = ps at *
  have hps : ps.length ≤ 12 := by omega
  have hall : (allF ps).length ≤ 6216 := Nat.le_trans (allF_length hfit) (by omega)
  have HFIT := Lib.hid hfit
  have HGA := Lib.hid hga; have HBX := Lib.hid hbx
  obtain ⟨f0, f1⟩ := hf
  obtain ⟨t0, t1⟩ := ha
  clear hA hT hl hfit hfew hga hbx
  go_enter Tryd.func6, Tryd.ntmps6
  go_wp2_with fail
  refine HC.out.mono ?_
  rintro r w1 ⟨va, vp, ve, xs, rfl, T⟩
  obtain ⟨aA, nA, cA, rfl, hnA⟩ := T.a.len
  obtain ⟨aP, nP, cP, rfl, hnP⟩ := T.p.len
  obtain ⟨aE, nE, cE, rfl, hnE⟩ := T.e.len
  have hnE' : nE = ps.length := by rw [← hnE]; simp [endsF]
  have hnP' : nP = ps.length := by rw [← hnP]; exact T.s.1
  subst hnE' hnP'
  have HTH := Lib.hid T
  have HNA := Lib.hid hnA
  have hA6 : nA ≤ 6216 := by rw [← hnA]; exact hall
  have HG1 := Lib.hid (grown_trans HGA.out T.g)
  have HB1 := Lib.hid (HBX.out.grown T.g)
  clear T hnA hnP hnE hall HC HBX HGA
  by_cases h0 : ps.length = 0
  · have h0' : ((ps.length : Int) == 0) = true := by simp only [beq_iff_eq]; omega
    go_wp2_with fail
    refine (frame_works _ (HT.out.grown HG1.out)).mono ?_
    rintro r w2 ⟨rfl, hg⟩
    have HG2 := Lib.hid (grown_trans HG1.out hg)
    clear hg
    go_wp2_with fail
    go_ret
    exact ⟨rfl, grown_below HG2.out⟩
  have h0' : ((ps.length : Int) == 0) = false := by simp only [beq_eq_false_iff_ne, ne_eq]; omega
  obtain ⟨k, hk, hkl⟩ : ∃ k : Nat, fr % (ps.length : Int) = (k : Int) ∧ k < ps.length := ⟨(fr % (ps.length : Int)).toNat, by
    have := Int.emod_nonneg fr (show (ps.length : Int) ≠ 0 by omega)
    omega, by
    have := Int.emod_lt_of_pos fr (show (0 : Int) < (ps.length : Int) by omega)
    omega⟩
  obtain ⟨p, hp⟩ : ∃ p, ps[k]? = some p := ⟨ps[k], List.getElem?_eq_getElem hkl⟩
  obtain ⟨hfp1, hfp2⟩ := fits_iff.1 (HFIT.out p (List.mem_of_getElem? hp))
  have hpk : ps[k] = p := (List.getElem?_eq_some_iff.1 hp).2
  obtain ⟨pa, pn, pc, hx1, hx2, _⟩ := HTH.out.s.2 k hkl
  rw [hpk] at hx2
  obtain ⟨gP, rfl, _, hcp⟩ := HTH.out.p.cell k (by rw [HTH.out.s.1]; exact hkl)
  rw [(List.getElem?_eq_some_iff.1 hx1).2] at hcp
  obtain ⟨gE, rfl, _, hce⟩ := HTH.out.e.cell k (by simp [endsF]; exact hkl)
  rw [endsF_get ps k hkl, ends_at hp] at hce
  obtain ⟨L, hL⟩ : ∃ L, (allF (ps.take k)).length = L := ⟨_, rfl⟩
  rw [hL, hx2] at hce
  have hLn : L + 6 + pn ≤ nA := by
    have h1 := ends_at hp
    have h2 := allF_take ps (show k + 1 ≤ ps.length by omega)
    rw [List.take_length, HNA.out] at h2
    omega
  obtain ⟨F, hF⟩ : ∃ F, L + 6 = F := ⟨_, rfl⟩
  rw [hF] at hce hLn
  have HP := Lib.hid hp; have HL := Lib.hid hL; have HPN := Lib.hid hx2; have HF := Lib.hid hF
  have hF6 : 6 ≤ F := by omega
  obtain ⟨E1, hE1⟩ : ∃ E1, F + pn = E1 := ⟨_, rfl⟩
  rw [hE1] at hce hLn
  have HE1 := Lib.hid hE1
  have hsub : IntKind.i64.wrap ((E1 : Int) - (pn : Int)) = (F : Int) := by rw [wrap_i64 _ (by omega) (by omega)]; omega
  have hpn1 : 1 ≤ pn := by omega
  have hpn2 : pn ≤ 512 := by omega
  have c0 := HB1.out.cell 0 rfl
  have c1 := HB1.out.cell 1 rfl
  have c2 := HB1.out.cell 2 rfl
  clear hp hL hx2 hx1 hpk hfp1 hfp2 hF hE1
  have i0 : (0 : Int) ≤ (k : Int) := by omega
  have i1 : (k : Int) < (ps.length : Int) := by omega
  go_wp2_with fail
  rw [hk]
  go_quiet (fail)
  have HG2 := Lib.hid (grown_trans HG1.out (grown_drewN w1 nq)); have HB2 := Lib.hid (HB1.out.grown (grown_drewN w1 nq)); have HTH2 := Lib.hid (HTH.out.grown (grown_drewN w1 nq))
  have HCE2 := Lib.hid (grown_cell (grown_drewN w1 nq) hce)
  clear c0 c1 c2 hcp hce HG1 HB1 HTH
  generalize w1.drewN nq = w2 at *
  have HRP := Lib.hid (RVB.now (RVB.of_own HTH2.out.p (HTH2.out.s.weaken (X' := fun _ => False) (fun _ h => h.elim)) (fun _ _ h => h)))
  have HCP := Lib.hid (show ps.length ≤ cP by
    rcases HTH2.out.p.2 with ⟨hv, _⟩ | ⟨q, cp, cur, hv, _, _, hnc, hcm, _⟩
    · obtain ⟨_, h1, h2⟩ := Value.slice.inj hv; omega
    · obtain ⟨_, h1, h2⟩ := Value.slice.inj hv; omega)
  have HWC := Lib.hid (withC_same HP.out)
  go_wp2_with (at_builtin; refine wpList_append_bytes2 (o := ⟨some 52, _, _, _, _, _⟩) rfl _ _ rfl w2.heap.size _ [] rfl (OwnB.made w2 #[] 0 (by simp [maxLen]) rfl) aA _ cA (allF ps) rfl ((RB.of_own HTH2.out.a).alloc _) HNA.out (by simp; omega) (by simp) ?_)
  intro v3 w3 ho hg _
  obtain ⟨ab, nb, cb, rfl, hnb⟩ := ho.len
  have hnb' : nb = nA := by rw [← hnb]; exact HNA.out
  subst hnb'
  have hg23 := grown_new (World.grownBy_alloc w2 _ none) (Nat.le_refl _) hg
  have HO3 := Lib.hid (show OwnB w3 w2.heap.size (.slice ab nb cb) (withC ps k p p) by rw [HWC.out]; exact ho)
  have HG3 := Lib.hid (grown_trans HG2.out hg23); have HB3 := Lib.hid (HB2.out.grown hg23)
  have HRP3 := Lib.hid (HRP.out.kept (Kept.of_grown hg23))
  have e3 := grown_cell hg23 HCE2.out
  have HCB := Lib.hid (show nb ≤ cb ∧ cb ≤ maxLen by
    rcases ho.2 with ⟨hv, _⟩ | ⟨q, cp, cur, hv, _, _, hnc, hcm, _⟩
    · obtain ⟨_, h1, h2⟩ := Value.slice.inj hv; subst h2; exact ⟨by omega, by simp [maxLen]⟩
    · obtain ⟨_, h1, h2⟩ := Value.slice.inj hv; subst h2; exact ⟨by omega, hcm⟩)
  have HGS := Lib.hid (show w.heap.size < w2.heap.size from HB2.out.lt)
  clear ho hg hnb hg23 HTH2 HB2 HRP
  obtain ⟨k0, hk0⟩ : ∃ k0 : Nat, at0 % (8 * (pn : Int)) = (k0 : Int) := ⟨(at0 % (8 * (pn : Int))).toNat, by rw [Int.toNat_of_nonneg (Int.emod_nonneg _ (by omega))]⟩
  have hk1 : k0 < 8 * pn := by have := Int.emod_lt_of_pos at0 (show (0 : Int) < 8 * (pn : Int) by omega); omega
  have F6 : (6 : Int) ≤ (F : Int) := by omega
  have E7 : (E1 : Int) ≤ (nb : Int) := by omega
  go_wp2_with fail
  clear e3
  go_loopw [12, 13] (fun t i wr => TurnRel w w2.heap.size ps k p k0 (.slice ab nb cb) (some ⟨gP, 0, none⟩) [.int .u8 fr, .int .u16 at0, .int .u32 bits0] t i wr) (fun _ i _ => 32 - (intOf i).toNat)
  case atStart => exact ⟨0, 0, p, 0, by omega, rfl, rfl, HO3.out, Turned.start _ _, fun _ => rfl, HB3.out, HRP3.out, HG3.out⟩
  case round =>
    obtain ⟨ti, ii, c, E, hi, rfl, rfl, hown, hturn, hsame, hbx, hrp, hg⟩ := hrel
    have HO := Lib.hid hown; have HU := Lib.hid hturn; have HSM := Lib.hid hsame; have HBX := Lib.hid hbx; have HRP := Lib.hid hrp; have HG := Lib.hid hg
    have ht32 := hturn.few
    have c1 := hbx.cell 1 rfl
    have c2 := hbx.cell 2 rfl
    have hcl : c.length = pn := by rw [hturn.len]; exact HPN.out
    have HCL := Lib.hid hcl
    clear hown hturn hsame hbx hrp hg hcl
    by_cases hlt : ii < 32
    · by_cases htest : bits .and .u32 (bits0 / 2 ^ ii) 1 = 1
      · by_cases hkn : k0 + ii < 8 * pn
        · obtain ⟨K, hK⟩ : ∃ K : Nat, k0 + ii = K := ⟨_, rfl⟩
          have hKi : (k0 : Int) + (ii : Int) = (K : Int) := by omega
          have hj : K / 8 < c.length := by rw [HCL.out]; omega
          obtain ⟨J, hJ⟩ : ∃ J : Nat, F + K / 8 = J := ⟨_, rfl⟩
          have hJi : (F : Int) + (K : Int) / 8 = (J : Int) := by omega
          have hJn : J < nb := by have := HE1.out; omega
          have hLF : (allF (ps.take k)).length + 6 + K / 8 = J := by rw [HL.out]; have := HF.out; omega
          have hwl := withC_length (c := c) HP.out (by rw [HCL.out]; exact HPN.out.symm)
          obtain ⟨g, rfl, hcell, hfz, hBg, hset⟩ := HO.out.at J (by rw [hwl, HNA.out]; exact hJn)
          obtain ⟨x, hx⟩ : ∃ x, c[K / 8]? = some x := ⟨_, List.getElem?_eq_getElem hj⟩
          have hget := (withC_get (ps := ps) (k := k) (p := p) hj).trans ((List.getElem?_eq_getElem hj).symm.trans hx)
          rw [hLF] at hget
          rw [(List.getElem?_eq_some_iff.1 hget).2] at hcell
          have HSET := Lib.hid hset
          have HK := Lib.hid hK; have HLF := Lib.hid hLF; have HJ := Lib.hid hj
          have HBG := Lib.hid hBg
          have HX := Lib.hid hx
          have hcell' : wr.cell? ⟨g, J, none⟩ = some (.int .u8 (x.toNat : Int)) := hcell
          clear hset hK hJ hwl hget hLF hcell hx hBg hj
          have q0 : (0 : Int) ≤ (J : Int) := by omega
          have q1 : (J : Int) < (nb : Int) := by omega
          go_wp2_with fail
          have hcl2 : (c.set (K / 8) (x ^^^ (1 <<< UInt8.ofNat (K % 8)))) = turn c K := by
            unfold turn
            rw [List.getD_eq_getElem?_getD, HX.out]
            rfl
          have hown2 := HSET.out (x ^^^ (1 <<< UInt8.ofNat (K % 8)))
          rw [← HLF.out, withC_set HJ.out, HLF.out, hcl2] at hown2
          have hgs := grown_setCell wr g J (bval (x ^^^ (1 <<< UInt8.ofNat (K % 8))))
          refine ⟨?_, by simp only [intOf]; omega⟩
          rw [turn_byte]
          exact ⟨ti + 1, ii + 1, turn c K, E ^^^ BitVec.twoPow 32 ii, by omega, by go_num, by go_num, hown2, by rw [← HK.out]; exact HU.out.turn hlt (by rw [HPN.out]; exact hkn), fun h => absurd h (by omega), HBX.out.kept hgs (by have := HGS.out; have := HBG.out; simp; omega), HRP.out.kept (Kept.of_row hgs HBG.out), grown_new HG.out (by have := HGS.out; have := HBG.out; omega) hgs⟩
        · have hkn' : 8 * (pn : Int) ≤ (k0 : Int) + (ii : Int) := by omega
          go_wp2_with fail
          exact ⟨⟨ti, ii + 1, c, E, by omega, by go_num, rfl, HO.out, HU.out.skip, HSM.out, HBX.out, HRP.out, HG.out⟩, by simp only [intOf]; omega⟩
      · have htest' : (bits .and .u32 (bits0 / 2 ^ ii) 1 == 1) = false := by simp [htest]
        go_wp2_with fail
        exact ⟨⟨ti, ii + 1, c, E, by omega, by go_num, rfl, HO.out, HU.out.skip, HSM.out, HBX.out, HRP.out, HG.out⟩, by simp only [intOf]; omega⟩
    · have hwl := withC_length (c := c) HP.out (by rw [HCL.out]; exact HPN.out.symm)
      have HRS := Lib.hid (show RS wr (fun _ => False) ab nb cb (withC ps k p c) from ⟨by rw [hwl, HNA.out], HCB.out.1, HCB.out.2, RX.of_rb (RB.of_own HO.out) (fun _ _ _ h => h)⟩)
      have HSC := Lib.hid (frame_scan ab nb cb _ wr HRS.out (by omega) (HT.out.grown HG.out))
      have hrv : RVB wr (fun _ => False) (some ⟨gP, 0, none⟩) ps := fun i hi => by
        obtain ⟨b, o, e, _, a', n, c, hc, hn, hr⟩ := HRP.out i hi
        exact ⟨b, o, e, fun h => h, a', n, c, hc, hn, RX.of_rb hr.rb (fun _ _ _ h => h)⟩
      have HRV := Lib.hid hrv
      clear hwl hrv c1 c2
      by_cases ht0 : ti = 0
      · subst ht0
        have hc := HSM.out rfl
        rw [hc, HWC.out, whole_scan HFIT.out] at HSC
        clear hc
        go_wp2_with fail
        refine HSC.out.mono ?_
        rintro r w4 ⟨a4, n4, c4, rfl, hn4, hb, hg⟩
        have hn4' : n4 = ps.length := hn4.symm
        subst hn4'
        have HB4 := Lib.hid hb; have HG4 := Lib.hid (grown_trans HG.out hg); have HRV4 := Lib.hid (HRV.out.kept (Kept.of_grown hg))
        simp only at HB4
        clear hb hg hn4
        go_wp2_with fail
        refine (frame_same a4 ps.length c4 (some ⟨gP, 0, none⟩) cP ps w4 rfl (by omega) HB4.out.rvb HRV4.out).mono ?_
        rintro r w5 ⟨rfl, hg⟩
        have HG5 := Lib.hid (grown_trans HG4.out hg)
        clear hg
        go_wp2_with fail
        refine (frame_works _ (HT.out.grown HG5.out)).mono ?_
        rintro r w6 ⟨rfl, hg⟩
        have HG6 := Lib.hid (grown_trans HG5.out hg)
        clear hg
        go_wp2_with fail
        go_ret
        exact ⟨rfl, grown_below HG6.out⟩
      · have hsn : sumN c ≠ sumN p := fun h => ht0 (HU.out.sums.1 (by rw [sumN_eq, sumN_eq, h]))
        rw [withC_scan HFIT.out HP.out (by rw [HCL.out]; exact HPN.out.symm) hsn, HL.out] at HSC
        have ht0' : ((ti : Int) == 0) = false := by simp; omega
        have hF6 : IntKind.i64.wrap ((F : Int) - 6) = (L : Int) := by have := HE1.out; have := HF.out; rw [wrap_i64 _ (by omega) (by omega)]; omega
        have m0 : (0 : Int) ≤ (k : Int) := by omega
        have m1 : (k : Int) ≤ (ps.length : Int) := by omega
        have m2 : (k : Int) ≤ (cP : Int) := by have := HCP.out; omega
        clear hsn
        go_wp2_with fail
        refine HSC.out.mono ?_
        rintro r w4 ⟨a4, n4, c4, rfl, hn4, hb, hg⟩
        have hn4' : n4 = k := by rw [← hn4]; simp only [List.length_take]; omega
        subst hn4'
        have HB4 := Lib.hid hb; have HG4 := Lib.hid (grown_trans HG.out hg); have HRV4 := Lib.hid ((HRV.out.kept (Kept.of_grown hg)).take n4)
        simp only at HB4
        clear hb hg hn4
        go_wp2_with fail
        refine (frame_same a4 n4 c4 (some ⟨gP, 0, none⟩) cP (ps.take n4) w4 (by rw [List.length_take]; omega) (by omega) HB4.out.rvb HRV4.out).mono ?_
        rintro r w5 ⟨rfl, hg⟩
        have HG5 := Lib.hid (grown_trans HG4.out hg)
        clear hg
        go_wp2_with fail
        refine (frame_works _ (HT.out.grown HG5.out)).mono ?_
        rintro r w6 ⟨rfl, hg⟩
        have HG6 := Lib.hid (grown_trans HG5.out hg)
        clear hg
        go_wp2_with fail
        go_ret
        exact ⟨rfl, grown_below HG6.out⟩

end Go.Proofs.YthpoccjlhcpoiaaDoor
