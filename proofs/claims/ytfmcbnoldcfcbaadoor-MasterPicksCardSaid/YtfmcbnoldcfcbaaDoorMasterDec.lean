/-
  The walks through the package master: 'Decode'.
-/
import Derived.Test.YtfmcbnoldcfcbaaDoorMasterWalk
namespace Go.Proofs.YtfmcbnoldcfcbaaDoor
open Go.RowKit

theorem wrap_i64 (z : Int) (h0 : 0 ≤ z) (h1 : z < 9223372036854775808) : IntKind.i64.wrap z = z := wrap_small _ (by omega) (by omega)
theorem wrap_u32 (z : Int) (h0 : 0 ≤ z) (h1 : z < 4294967296) : IntKind.u32.wrap z = z := by rw [IntKind.wrap_u32]; omega
theorem numR_long {l : List UInt8} {k : Nat} (h1 : 1 ≤ k) (h8 : k ≤ 8) (h : k ≤ l.length) : numR 0 l k = (valN (l.take k), 0, l.drop k) := by
  unfold numR takeR
  rw [if_neg (by omega), if_neg (by simp), if_neg (by rw [Int.toNat_natCast]; omega)]
  rfl
theorem valN_fit (l : List UInt8) (k : Nat) : valN (l.take k) < 2 ^ (8 * k) :=
  Nat.lt_of_lt_of_le (valN_lt _) (Nat.pow_le_pow_right (by decide) (by rw [List.length_take]; omega))

/-- the master that bytes tell -/
def parseM (l : List UInt8) : MasterV := ⟨valN (l.take 8), UInt8.ofNat (valN ((l.drop 8).take 1)), wrap64 (valN ((l.drop 9).take 8) : Nat), wrap64 (valN ((l.drop 17).take 8) : Nat), wrap64 (valN ((l.drop 25).take 8) : Nat)⟩
/-- what 'Decode' tells -/
def decM (l : List UInt8) : MasterV × Int :=
  if l.length < 45 then (zeroM, 6) else if l.take 8 ≠ (l.drop 37).take 8 then (zeroM, 8) else
  if sumN (l.take 33) ≠ valN ((l.drop 33).take 4) then (zeroM, 9) else if GoodM (parseM l) then (parseM l, 0) else (zeroM, 8)

def DecPost (w : World) (t : MasterV × Int) (r : Ending) (w' : World) : Prop :=
  r = .returned (.tuple #[.agg #[.int .u64 (t.1.gen : Int), .int .u8 (t.1.area.toNat : Int), .int .i64 t.1.redo, .int .i64 t.1.tab, .int .i64 t.1.size], .int .i64 t.2]) ∧ w.grownBy w' none

/-- eight zeros -/
theorem box8 (w : World) (n : Nat) (hn : n = w.heap.size) : Box (w.alloc (.cells #[.int .u8 0, .int .u8 0, .int .u8 0, .int .u8 0, .int .u8 0, .int .u8 0, .int .u8 0, .int .u8 0] 54)) n 54 ((List.replicate 8 (0 : UInt8)).map bval) := by
  subst hn; exact heap_alloc_new w _
theorem list8 {l : List UInt8} (h : l.length = 8) : ∃ x0 x1 x2 x3 x4 x5 x6 x7, l = [x0, x1, x2, x3, x4, x5, x6, x7] := by
  match l, h with
  | [x0, x1, x2, x3, x4, x5, x6, x7], _ => exact ⟨x0, x1, x2, x3, x4, x5, x6, x7, rfl⟩

theorem step_copy_box {w : World} {ops : Array Oper} {o : Oper} {a : Act} {K : Act → World → Prop} {Q : Exit → Act → World → Prop} {E : Prop} {T : TypeId} (hgd : o.guard = none) (d s : Operand)
    (ho : o.op = .call { callee := .builtin .copy, args := #[d, s], argTypes := #[25, 25] })
    (sp : Option Addr) (dLen dCap sLen sCap : Nat) (g : Nat) (hd : a.eval d = .slice (some ⟨g, 0, none⟩) dLen dCap) (hs : a.eval s = .slice sp sLen sCap)
    (L : List UInt8) (hg : Box w g T (L.map bval)) (src : List UInt8) (hr : RB w sp src) (hn : src.length = sLen)
    (hL : L.length = dLen) (hpos : 0 < dLen) (hle : dLen ≤ sLen)
    (h : ∀ w', Box w' g T ((src.take dLen).map bval) → w.grownBy w' (some g) → K (a.put o.dst (goInt dLen)) w') :
    if Region.wanted o (yielded ops a.tmps) = true then Oper.wp Tryd.prog o a w K Q else E := by
  have hw : Region.wanted o (yielded ops a.tmps) = true := by simp [Region.wanted, hgd]
  rw [if_pos hw]
  obtain ⟨w', hrun, h1, h2⟩ := run_copy_box (ty := o.type) sp dLen dCap sLen sCap g L hg src hr hn hL hpos hle
  unfold Oper.wp execOp
  simp only [ho, resolve, invoke, builtin, Sem.run_bind, Sem.run_pure, Result.andThen_ok, List.map_toArray, List.map_cons, List.map_nil, hd, hs, hrun]
  exact h w' h1 h2

theorem read_at {l : List UInt8} (i k : Nat) (hi : i + k ≤ 37) (hl : 37 ≤ l.length) (h1 : 1 ≤ k) (h8 : k ≤ 8) : numR 0 ((l.take 37).drop i) k = (valN ((l.drop i).take k), 0, (l.take 37).drop (i + k)) := by
  rw [numR_long h1 h8 (by rw [List.length_drop, List.length_take]; omega), List.drop_drop]
  congr 2
  rw [List.drop_take, List.take_take, Nat.min_eq_left (by omega)]

/-- a box of five cells, all set anew -/
theorem set5 {w : World} {g : Nat} {T : TypeId} {c0 c1 c2 c3 c4 : Value} (hb : Box w g T [c0, c1, c2, c3, c4]) (a b c d e : Value) :
    Box (((((w.setCell ⟨g, 0, none⟩ a).setCell ⟨g, 1, none⟩ b).setCell ⟨g, 2, none⟩ c).setCell ⟨g, 3, none⟩ d).setCell ⟨g, 4, none⟩ e) g T [a, b, c, d, e] :=
  ((((hb.set 0 a).set 1 b).set 2 c).set 3 d).set 4 e
theorem grown5 (w : World) (g : Nat) (a b c d e : Value) : w.grownBy (((((w.setCell ⟨g, 0, none⟩ a).setCell ⟨g, 1, none⟩ b).setCell ⟨g, 2, none⟩ c).setCell ⟨g, 3, none⟩ d).setCell ⟨g, 4, none⟩ e) (some g) :=
  grown_same (grown_same (grown_same (grown_same (grown_setCell _ _ _ _) (grown_setCell _ _ _ _)) (grown_setCell _ _ _ _)) (grown_setCell _ _ _ _)) (grown_setCell _ _ _ _)

set_option maxRecDepth 100000 in
set_option maxHeartbeats 3200000 in
theorem master_decode {X : Nat → Prop} (a : Option Addr) (n cap : Nat) (l : List UInt8) (w : World) (hs : RS w X a n cap l) (hm : n ≤ 1000) (hT : Tab w) :
    Calls Tryd.prog 10 #[.slice a n cap] w (DecPost w (decM l)) := by
  have HS := Lib.hid hs; have HT := Lib.hid hT
  have hcap := hs.le
  clear hs hT
  by_cases h45 : n < 45
  · have hx : decM l = (zeroM, 6) := by unfold decM; rw [if_pos (by rw [HS.out.len]; exact h45)]
    rw [hx]
    have h45' : (n : Int) < 45 := by omega
    go_enter Tryd.func10, Tryd.ntmps10
    go_wp2_with fail
    have HBR := Lib.hid (Box.new w 24 [.int .u64 0, .int .u8 0, .int .i64 0, .int .i64 0, .int .i64 0] w.heap.size rfl)
    have b0 := HBR.out.cell 0 rfl
    have b1 := HBR.out.cell 1 rfl
    have b2 := HBR.out.cell 2 rfl
    have b3 := HBR.out.cell 3 rfl
    have b4 := HBR.out.cell 4 rfl
    refine bodyPost_ret (v := .tuple #[.agg #[.int .u64 0, .int .u8 0, .int .i64 0, .int .i64 0, .int .i64 0], .int .i64 6]) ?_ rfl ?_
    · simp only [results]
      go_simp
    · exact ⟨rfl, World.grownBy_alloc _ _ none⟩
  have h45' : (45 : Int) ≤ (n : Int) := by omega
  have h45c : (45 : Int) ≤ (cap : Int) := by omega
  have h37c : (37 : Int) < (cap : Int) := by omega
  have h33n : (33 : Int) ≤ (n : Int) := by omega
  have hlen : l.length = n := HS.out.len
  obtain ⟨ba, oa, ha, _⟩ := HS.out.rx.rb.get 0 (by omega)
  subst ha
  have hlh : (l.take 8).length = 8 := by rw [List.length_take]; omega
  have hlt : ((l.drop 37).take 8).length = 8 := by rw [List.length_take, List.length_drop]; omega
  have HLH := Lib.hid hlh; have HLT := Lib.hid hlt; have HLEN := Lib.hid hlen
  have HBR := Lib.hid (((Box.new w 24 [.int .u64 0, .int .u8 0, .int .i64 0, .int .i64 0, .int .i64 0] w.heap.size rfl).alloc (.cells #[.int .u8 0, .int .u8 0, .int .u8 0, .int .u8 0, .int .u8 0, .int .u8 0, .int .u8 0, .int .u8 0] 54)).alloc (.cells #[.int .u8 0, .int .u8 0, .int .u8 0, .int .u8 0, .int .u8 0, .int .u8 0, .int .u8 0, .int .u8 0] 54))
  have hg0 := grown_trans (grown_trans (World.grownBy_alloc w (.cells [.int .u64 0, .int .u8 0, .int .i64 0, .int .i64 0, .int .i64 0].toArray 24) none) (World.grownBy_alloc _ (.cells #[.int .u8 0, .int .u8 0, .int .u8 0, .int .u8 0, .int .u8 0, .int .u8 0, .int .u8 0, .int .u8 0] 54) none)) (World.grownBy_alloc _ (.cells #[.int .u8 0, .int .u8 0, .int .u8 0, .int .u8 0, .int .u8 0, .int .u8 0, .int .u8 0, .int .u8 0] 54) none)
  have HBH := Lib.hid ((box8 (w.alloc (.cells [.int .u64 0, .int .u8 0, .int .i64 0, .int .i64 0, .int .i64 0].toArray 24)) (w.heap.size + 1) (by simp)).alloc (.cells #[.int .u8 0, .int .u8 0, .int .u8 0, .int .u8 0, .int .u8 0, .int .u8 0, .int .u8 0, .int .u8 0] 54))
  have HBT := Lib.hid (box8 ((w.alloc (.cells [.int .u64 0, .int .u8 0, .int .i64 0, .int .i64 0, .int .i64 0].toArray 24)).alloc (.cells #[.int .u8 0, .int .u8 0, .int .u8 0, .int .u8 0, .int .u8 0, .int .u8 0, .int .u8 0, .int .u8 0] 54)) (w.heap.size + 1 + 1) (by simp))
  have HG0 := Lib.hid hg0
  clear hlen hlh hlt hg0
  go_enter Tryd.func10, Tryd.ntmps10
  go_wp2_with (refine wpList_copy_box (o := ⟨some 14, _, _, _, _, _⟩) rfl _ _ rfl (some ⟨ba, oa, none⟩) 8 8 n cap (w.heap.size + 1) rfl rfl (List.replicate 8 0) HBH.out l (HS.out.rx.rb.old (grown_below HG0.out)) HLEN.out rfl (by decide) (by omega) ?_)
  intro w1 hb1 hg1
  have HBH1 := Lib.hid (show Box w1 (w.heap.size + 1) 54 ((l.take 8).map bval) by have h := hb1; simp only [List.map_take] at h ⊢; exact h)
  have HBR1 := Lib.hid (HBR.out.kept hg1 (by simp)); have HBT1 := Lib.hid (HBT.out.kept hg1 (by simp))
  have HG1 := Lib.hid (grown_new HG0.out (Nat.le_succ _) hg1)
  clear hb1 hg1 HBR HBT HBH HG0
  go_wp2_with fail
  have hq := (RX.drop HS.out.rx 37).rb.old (grown_below HG1.out)
  have HD := Lib.hid (show RB w1.drew (some ⟨ba, oa + 37, none⟩) (l.drop 37) by simpa [Addr.add_lit] using (show RB w1.drew _ _ from hq))
  clear hq
  have hc37 : ¬ cap = 37 := by omega
  have h37n : (37 : Int) ≤ (n : Int) := by omega
  have HDL := Lib.hid (show (l.drop 37).length = n - 37 by rw [List.length_drop, HLEN.out])
  go_region_held_law (fun _ => True) (trivial) (first | (refine step_copy_box (by rfl) _ _ (by rfl) _ 8 8 _ _ (w.heap.size + 1 + 1) (by rfl) (by rfl) (List.replicate 8 0) HBT1.out.drew (l.drop 37) (by first | exact HD.out | (rw [if_neg hc37]; exact HD.out)) HDL.out rfl (by decide) (by omega) ?_; intro w2 hb2 hg2))
  have HBT2 := Lib.hid (show Box w2 (w.heap.size + 1 + 1) 54 (((l.drop 37).take 8).map bval) by have h := hb2; simp only [List.map_take, List.map_drop] at h ⊢; exact h)
  have HBR2 := Lib.hid (HBR1.out.drew.kept hg2 (by simp; omega)); have HBH2 := Lib.hid (HBH1.out.drew.kept hg2 (by simp))
  have HG2 := Lib.hid (grown_new (grown_trans HG1.out (grown_drew1 w1)) (by omega) hg2)
  clear hb2 hg2 HBR1 HBT1 HBH1 HG1 hc37 HD HDL
  have heq := fun u => run_eq8 (l.take 8) ((l.drop 37).take 8) HLH.out HLT.out u
  have hguard : Tryd.prog.eqGuardType Tryd.prog.depth 54 = false := by kernel_rfl
  obtain ⟨p0, p1, p2, p3, p4, p5, p6, p7, hp⟩ := list8 HLH.out
  obtain ⟨q0, q1, q2, q3, q4, q5, q6, q7, hq⟩ := list8 HLT.out
  obtain ⟨b, hb⟩ : ∃ b, (l.take 8 == (l.drop 37).take 8) = b := ⟨_, rfl⟩
  rw [hb] at heq
  have HB := Lib.hid hb
  rw [hp, hq] at heq
  rw [hp] at HBH2
  rw [hq] at HBT2
  simp only [List.map_cons, List.map_nil] at heq HBH2 HBT2
  clear hp hq hb
  have e0 := HBH2.out.cell 0 rfl
  have e1 := HBH2.out.cell 1 rfl
  have e2 := HBH2.out.cell 2 rfl
  have e3 := HBH2.out.cell 3 rfl
  have e4 := HBH2.out.cell 4 rfl
  have e5 := HBH2.out.cell 5 rfl
  have e6 := HBH2.out.cell 6 rfl
  have e7 := HBH2.out.cell 7 rfl
  have f0 := HBT2.out.cell 0 rfl
  have f1 := HBT2.out.cell 1 rfl
  have f2 := HBT2.out.cell 2 rfl
  have f3 := HBT2.out.cell 3 rfl
  have f4 := HBT2.out.cell 4 rfl
  have f5 := HBT2.out.cell 5 rfl
  have f6 := HBT2.out.cell 6 rfl
  have f7 := HBT2.out.cell 7 rfl
  cases b
  · have hx : decM l = (zeroM, 8) := by
      have h := HB.out
      unfold decM
      rw [if_neg (by rw [HLEN.out]; exact h45), if_pos (by simpa using h)]
    have x0 := HBR2.out.cell 0 rfl
    have y0 := HBR2.out.free 0
    have x1 := fun v => (HBR2.out.set 0 v).cell 1 rfl
    have y1 := fun v => (HBR2.out.set 0 v).free 1
    have x2 := fun v u => ((HBR2.out.set 0 v).set 1 u).cell 2 rfl
    have y2 := fun v u => ((HBR2.out.set 0 v).set 1 u).free 2
    have x3 := fun v u t => (((HBR2.out.set 0 v).set 1 u).set 2 t).cell 3 rfl
    have y3 := fun v u t => (((HBR2.out.set 0 v).set 1 u).set 2 t).free 3
    have x4 := fun v u t s => ((((HBR2.out.set 0 v).set 1 u).set 2 t).set 3 s).cell 4 rfl
    have y4 := fun v u t s => ((((HBR2.out.set 0 v).set 1 u).set 2 t).set 3 s).free 4
    go_wp2_with fail
    have BF := set5 HBR2.out (.int .u64 0) (.int .u8 0) (.int .i64 0) (.int .i64 0) (.int .i64 0)
    have b0 := BF.cell 0 rfl
    have b1 := BF.cell 1 rfl
    have b2 := BF.cell 2 rfl
    have b3 := BF.cell 3 rfl
    have b4 := BF.cell 4 rfl
    refine bodyPost_ret (v := .tuple #[.agg #[.int .u64 0, .int .u8 0, .int .i64 0, .int .i64 0, .int .i64 0], .int .i64 8]) ?_ rfl ?_
    · simp only [results]
      go_simp
    · rw [hx]
      exact ⟨rfl, grown_new HG2.out (Nat.le_refl _) (grown5 _ _ _ _ _ _ _)⟩
  have hne : ¬ (l.take 8 ≠ (l.drop 37).take 8) := by have h := HB.out; simpa using h
  have h37 : 37 ≤ l.length := by rw [HLEN.out]; omega
  have r1 := read_at (l := l) 0 8 (by decide) h37 (by decide) (by decide)
  have r2 := read_at (l := l) 8 1 (by decide) h37 (by decide) (by decide)
  have r3 := read_at (l := l) 9 8 (by decide) h37 (by decide) (by decide)
  have r4 := read_at (l := l) 17 8 (by decide) h37 (by decide) (by decide)
  have r5 := read_at (l := l) 25 8 (by decide) h37 (by decide) (by decide)
  have r6 := read_at (l := l) 33 4 (by decide) h37 (by decide) (by decide)
  rw [List.drop_zero, List.drop_zero] at r1
  have hA := valN_fit (l.drop 8) 1
  have hS := valN_fit (l.drop 33) 4
  have hdec : decM l = if sumN (l.take 33) ≠ valN ((l.drop 33).take 4) then (zeroM, 9) else if GoodM (parseM l) then (parseM l, 0) else (zeroM, 8) := by
    unfold decM
    rw [if_neg (by rw [HLEN.out]; exact h45), if_neg hne]
  obtain ⟨M, hM⟩ : ∃ M, parseM l = M := ⟨_, rfl⟩
  have hMg : M.gen = valN (l.take 8) := by rw [← hM]; rfl
  have hMa : (M.area.toNat : Int) = (valN ((l.drop 8).take 1) : Nat) := by rw [← hM]; simp [parseM]; omega
  have hMr : M.redo = wrap64 (valN ((l.drop 9).take 8) : Nat) := by rw [← hM]; rfl
  have hMt : M.tab = wrap64 (valN ((l.drop 17).take 8) : Nat) := by rw [← hM]; rfl
  have hMs : M.size = wrap64 (valN ((l.drop 25).take 8) : Nat) := by rw [← hM]; rfl
  rw [hM] at hdec
  rw [← hMg] at r1
  obtain ⟨Ar, hAr⟩ : ∃ Ar, valN ((l.drop 8).take 1) = Ar := ⟨_, rfl⟩
  obtain ⟨S, hSS⟩ : ∃ S, valN ((l.drop 33).take 4) = S := ⟨_, rfl⟩
  rw [hAr] at r2 hA hMa
  rw [hSS] at r6 hS hdec
  have HR1 := Lib.hid r1; have HR2 := Lib.hid r2; have HR3 := Lib.hid r3; have HR4 := Lib.hid r4; have HR5 := Lib.hid r5; have HR6 := Lib.hid r6
  have HMR := Lib.hid hMr; have HMT := Lib.hid hMt; have HMS := Lib.hid hMs
  have HDEC := Lib.hid hdec
  have hwA : IntKind.u8.wrap (Ar : Int) = (M.area.toNat : Int) := by
    rw [hMa]
    simp [IntKind.wrap, IntKind.signed, IntKind.bits]
    omega
  have hwS : IntKind.u32.wrap (S : Int) = (S : Int) := wrap_u32 _ (by omega) (by omega)
  clear r1 r2 r3 r4 r5 r6 hMr hMt hMs hdec hM hMg hne h37 hAr hSS hA hMa
  go_wp2_with fail
  clear e0 e1 e2 e3 e4 e5 e6 e7 f0 f1 f2 f3 f4 f5 f6 f7 heq hguard
  refine (wire_read _ 37 _ (l.take 37) w2 (by rw [List.length_take, HLEN.out]; omega) ((HS.out.rx.rb.old (grown_below HG2.out)).take 37) (by decide)).mono ?_
  rintro r w3 ⟨g, rfl, hge, hR, hg⟩
  have HRD3 := Lib.hid hR; have HG3 := Lib.hid (grown_trans HG2.out hg); have HGE := Lib.hid (Nat.le_trans HG2.out.size hge); have HBR3 := Lib.hid (HBR2.out.grown hg)
  have HGL := Lib.hid (show w.heap.size < g by have := HBR2.out.lt; omega)
  clear hR hg hge HBR2
  go_wp2_with fail
  refine (wire_rnum HRD3.out 8).mono ?_
  rw [show numR 0 (l.take 37) 8 = _ from HR1.out]
  rintro r w4 ⟨rfl, hR, hg⟩
  have HRD4 := Lib.hid hR; have HG4 := Lib.hid (grown_new HG3.out HGE.out hg); have HBR4 := Lib.hid (HBR3.out.kept hg (by have := HGL.out; simp; omega))
  clear hR hg HRD3 HG3 HBR3
  go_wp2_with fail
  refine (wire_rnum HRD4.out 1).mono ?_
  rw [show numR 0 ((l.take 37).drop (0 + 8)) 1 = _ from HR2.out]
  rintro r w5 ⟨rfl, hR, hg⟩
  have HRD5 := Lib.hid hR; have HG5 := Lib.hid (grown_new HG4.out HGE.out hg); have HBR5 := Lib.hid (HBR4.out.kept hg (by have := HGL.out; simp; omega))
  clear hR hg HRD4 HG4 HBR4
  go_wp2_with fail
  have hc := wire_rint HRD5.out
  rw [show numR 0 ((l.take 37).drop (8 + 1)) 8 = _ from HR3.out] at hc
  simp only [← HMR.out] at hc
  refine hc.mono ?_
  clear hc
  rintro r w6 ⟨rfl, hR, hg⟩
  have HRD6 := Lib.hid hR; have HG6 := Lib.hid (grown_new HG5.out HGE.out hg); have HBR6 := Lib.hid (HBR5.out.kept hg (by have := HGL.out; simp; omega))
  clear hR hg HRD5 HG5 HBR5
  go_wp2_with fail
  have hc := wire_rint HRD6.out
  rw [show numR 0 ((l.take 37).drop (9 + 8)) 8 = _ from HR4.out] at hc
  simp only [← HMT.out] at hc
  refine hc.mono ?_
  clear hc
  rintro r w7 ⟨rfl, hR, hg⟩
  have HRD7 := Lib.hid hR; have HG7 := Lib.hid (grown_new HG6.out HGE.out hg); have HBR7 := Lib.hid (HBR6.out.kept hg (by have := HGL.out; simp; omega))
  clear hR hg HRD6 HG6 HBR6
  go_wp2_with fail
  have hc := wire_rint HRD7.out
  rw [show numR 0 ((l.take 37).drop (17 + 8)) 8 = _ from HR5.out] at hc
  simp only [← HMS.out] at hc
  refine hc.mono ?_
  clear hc
  rintro r w8 ⟨rfl, hR, hg⟩
  have HRD8 := Lib.hid hR; have HG8 := Lib.hid (grown_new HG7.out HGE.out hg); have HBR8 := Lib.hid (HBR7.out.kept hg (by have := HGL.out; simp; omega))
  clear hR hg HRD7 HG7 HBR7
  go_wp2_with fail
  have hgm := World.grownBy_alloc w8 (.cells #[.int .u64 (M.gen : Int), .int .u8 (M.area.toNat : Int), .int .i64 M.redo, .int .i64 M.tab, .int .i64 M.size] 24) none
  have HRDm := Lib.hid (HRD8.out.grown hgm); have HGm := Lib.hid (grown_trans HG8.out hgm); have HBRm := Lib.hid (HBR8.out.grown hgm)
  have HBM := Lib.hid (Box.new w8 24 [.int .u64 (M.gen : Int), .int .u8 (M.area.toNat : Int), .int .i64 M.redo, .int .i64 M.tab, .int .i64 M.size] w8.heap.size rfl)
  have HGN := Lib.hid (show g < w8.heap.size by obtain ⟨_, _, _, hb, _⟩ := HRD8.out.box; exact hb.lt)
  clear hgm HRD8 HG8 HBR8
  generalize w8.alloc (.cells #[.int .u64 (M.gen : Int), .int .u8 (M.area.toNat : Int), .int .i64 M.redo, .int .i64 M.tab, .int .i64 M.size] 24) = wm at *
  generalize w8.heap.size = bm at *
  have hc := wire_rnum (HRDm.out.grown (grown_drew1 wm)) 4
  rw [show numR 0 ((l.take 37).drop (25 + 8)) 4 = _ from HR6.out] at hc
  have HCN := Lib.hid hc
  obtain ⟨tb, htb⟩ : ∃ tb, (sumN (l.take 33) == S) = tb := ⟨_, rfl⟩
  have HSAME := Lib.hid (show ∀ w' c, w.grownBy w' none → Calls Tryd.prog 28 #[.slice (some ⟨ba, oa, none⟩) 33 c, .int .u32 (S : Int)] w' fun e w'' => e = .returned (.bool tb) ∧ w' = w'' from fun w' c hg => by
    have h := same_any (some ⟨ba, oa, none⟩) 33 c (l.take 33) (S : Int) w' (by rw [List.length_take, HLEN.out]; omega) (by decide) (HT.out.grown hg) ((HS.out.rx.rb.old (grown_below hg)).take 33)
    rw [sumN_eq, show (((sumN (l.take 33) : Nat) : Int) == (S : Int)) = tb by rw [← htb, Bool.eq_iff_iff]; simp only [beq_iff_eq]; omega] at h
    exact h)
  have HGD8 := Lib.hid (grown_trans HGm.out (grown_drew1 wm)); have HBD8 := Lib.hid HBRm.out.drew; have HMD := Lib.hid HBM.out.drew
  have HTB := Lib.hid htb
  clear hc htb HRDm
  go_region_held_law (fun _ => True) (trivial) (first
    | (go_at_call 26; refine HCN.out.mono ?_; rintro e w9 ⟨rfl, hR9, hg9⟩; have hgw := grown_new HGD8.out HGE.out hg9)
    | (go_at_call 28; refine (HSAME.out _ _ hgw).mono ?_; rintro e w10 ⟨rfl, rfl⟩))
  all_goals (
    have HG9 := Lib.hid hgw
    have HBR9 := Lib.hid (HBD8.out.kept hg9 (by have := HGL.out; simp; omega))
    have HM9 := Lib.hid (HMD.out.kept hg9 (by have := HGN.out; simp; omega))
    clear hR9 hg9 hgw HGm HBRm HBM HGD8 HBD8 HMD HCN HSAME
    have z0 := HM9.out.cell 0 rfl
    have z1 := HM9.out.cell 1 rfl
    have z2 := HM9.out.cell 2 rfl
    have z3 := HM9.out.cell 3 rfl
    have z4 := HM9.out.cell 4 rfl
    cases tb
    · have hx : decM l = (zeroM, 9) := by
        have h := HTB.out
        rw [HDEC.out, if_pos (by simpa using h)]
      have x0 := HBR9.out.cell 0 rfl
      have y0 := HBR9.out.free 0
      have x1 := fun v => (HBR9.out.set 0 v).cell 1 rfl
      have y1 := fun v => (HBR9.out.set 0 v).free 1
      have x2 := fun v u => ((HBR9.out.set 0 v).set 1 u).cell 2 rfl
      have y2 := fun v u => ((HBR9.out.set 0 v).set 1 u).free 2
      have x3 := fun v u t => (((HBR9.out.set 0 v).set 1 u).set 2 t).cell 3 rfl
      have y3 := fun v u t => (((HBR9.out.set 0 v).set 1 u).set 2 t).free 3
      have x4 := fun v u t s => ((((HBR9.out.set 0 v).set 1 u).set 2 t).set 3 s).cell 4 rfl
      have y4 := fun v u t s => ((((HBR9.out.set 0 v).set 1 u).set 2 t).set 3 s).free 4
      go_wp2_with fail
      have BF := set5 HBR9.out (.int .u64 0) (.int .u8 0) (.int .i64 0) (.int .i64 0) (.int .i64 0)
      have b0 := BF.cell 0 rfl
      have b1 := BF.cell 1 rfl
      have b2 := BF.cell 2 rfl
      have b3 := BF.cell 3 rfl
      have b4 := BF.cell 4 rfl
      refine bodyPost_ret (v := .tuple #[.agg #[.int .u64 0, .int .u8 0, .int .i64 0, .int .i64 0, .int .i64 0], .int .i64 9]) ?_ rfl ?_
      · simp only [results]
        go_simp
      · rw [hx]
        exact ⟨rfl, grown_new HG9.out (Nat.le_refl _) (grown5 _ _ _ _ _ _ _)⟩
    have hsm : ¬ sumN (l.take 33) ≠ S := by have h := HTB.out; simpa using h
    have hd2 := HDEC.out
    rw [if_neg hsm] at hd2
    have HD2 := Lib.hid hd2
    clear hsm hd2
    have HGM := Lib.hid (master_good M)
    by_cases hgd : GoodM M
    · rw [decide_eq_true hgd] at HGM
      have hx : decM l = (M, 0) := by rw [HD2.out, if_pos hgd]
      have HX := Lib.hid hx
      clear hgd hx
      go_wp2_with fail
      refine (HGM.out _).mono ?_
      rintro r w11 ⟨rfl, hg⟩
      have HG11 := Lib.hid (grown_trans HG9.out hg); have HBR11 := Lib.hid (HBR9.out.grown hg)
      have u0 := grown_cell hg z0
      have u1 := grown_cell hg z1
      have u2 := grown_cell hg z2
      have u3 := grown_cell hg z3
      have u4 := grown_cell hg z4
      clear hg
      have x0 := HBR11.out.cell 0 rfl
      have y0 := HBR11.out.free 0
      have x1 := fun v => (HBR11.out.set 0 v).cell 1 rfl
      have y1 := fun v => (HBR11.out.set 0 v).free 1
      have x2 := fun v u => ((HBR11.out.set 0 v).set 1 u).cell 2 rfl
      have y2 := fun v u => ((HBR11.out.set 0 v).set 1 u).free 2
      have x3 := fun v u t => (((HBR11.out.set 0 v).set 1 u).set 2 t).cell 3 rfl
      have y3 := fun v u t => (((HBR11.out.set 0 v).set 1 u).set 2 t).free 3
      have x4 := fun v u t s => ((((HBR11.out.set 0 v).set 1 u).set 2 t).set 3 s).cell 4 rfl
      have y4 := fun v u t s => ((((HBR11.out.set 0 v).set 1 u).set 2 t).set 3 s).free 4
      go_wp2_with fail
      have BF := set5 HBR11.out (.int .u64 (M.gen : Int)) (.int .u8 (M.area.toNat : Int)) (.int .i64 M.redo) (.int .i64 M.tab) (.int .i64 M.size)
      have b0 := BF.cell 0 rfl
      have b1 := BF.cell 1 rfl
      have b2 := BF.cell 2 rfl
      have b3 := BF.cell 3 rfl
      have b4 := BF.cell 4 rfl
      refine bodyPost_ret (v := .tuple #[.agg #[.int .u64 (M.gen : Int), .int .u8 (M.area.toNat : Int), .int .i64 M.redo, .int .i64 M.tab, .int .i64 M.size], .int .i64 0]) ?_ rfl ?_
      · simp only [results]
        go_simp
      · rw [HX.out]
        exact ⟨rfl, grown_new HG11.out (Nat.le_refl _) (grown5 _ _ _ _ _ _ _)⟩
    · rw [decide_eq_false hgd] at HGM
      have hx : decM l = (zeroM, 8) := by rw [HD2.out, if_neg hgd]
      have HX := Lib.hid hx
      clear hgd hx
      go_wp2_with fail
      refine (HGM.out _).mono ?_
      rintro r w11 ⟨rfl, hg⟩
      have HG11 := Lib.hid (grown_trans HG9.out hg); have HBR11 := Lib.hid (HBR9.out.grown hg)
      have u0 := grown_cell hg z0
      have u1 := grown_cell hg z1
      have u2 := grown_cell hg z2
      have u3 := grown_cell hg z3
      have u4 := grown_cell hg z4
      clear hg
      have x0 := HBR11.out.cell 0 rfl
      have y0 := HBR11.out.free 0
      have x1 := fun v => (HBR11.out.set 0 v).cell 1 rfl
      have y1 := fun v => (HBR11.out.set 0 v).free 1
      have x2 := fun v u => ((HBR11.out.set 0 v).set 1 u).cell 2 rfl
      have y2 := fun v u => ((HBR11.out.set 0 v).set 1 u).free 2
      have x3 := fun v u t => (((HBR11.out.set 0 v).set 1 u).set 2 t).cell 3 rfl
      have y3 := fun v u t => (((HBR11.out.set 0 v).set 1 u).set 2 t).free 3
      have x4 := fun v u t s => ((((HBR11.out.set 0 v).set 1 u).set 2 t).set 3 s).cell 4 rfl
      have y4 := fun v u t s => ((((HBR11.out.set 0 v).set 1 u).set 2 t).set 3 s).free 4
      go_wp2_with fail
      have BF := set5 HBR11.out (.int .u64 0) (.int .u8 0) (.int .i64 0) (.int .i64 0) (.int .i64 0)
      have b0 := BF.cell 0 rfl
      have b1 := BF.cell 1 rfl
      have b2 := BF.cell 2 rfl
      have b3 := BF.cell 3 rfl
      have b4 := BF.cell 4 rfl
      refine bodyPost_ret (v := .tuple #[.agg #[.int .u64 0, .int .u8 0, .int .i64 0, .int .i64 0, .int .i64 0], .int .i64 8]) ?_ rfl ?_
      · simp only [results]
        go_simp
      · rw [HX.out]
        exact ⟨rfl, grown_new HG11.out (Nat.le_refl _) (grown5 _ _ _ _ _ _ _)⟩)

end Go.Proofs.YtfmcbnoldcfcbaaDoor
