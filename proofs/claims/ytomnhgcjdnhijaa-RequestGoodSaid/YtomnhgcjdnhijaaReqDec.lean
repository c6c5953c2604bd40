/-
  Requests are decoded.
-/
import Derived.Test.YtomnhgcjdnhijaaReqEnc
namespace Go.Proofs.Ytomnhgcjdnhijaa
open Go.RowKit
set_option maxRecDepth 100000

def readL : Nat → Int → List UInt8 → List LineP × Int × List UInt8
  | 0, e, l => ([], e, l)
  | n + 1, e, l => ((UInt8.ofNat (numR e l 1).1, wrap64 ((numR (numR e l 1).2.1 (numR e l 1).2.2 8).1 : Int)) :: (readL n (numR (numR e l 1).2.1 (numR e l 1).2.2 8).2.1 (numR (numR e l 1).2.1 (numR e l 1).2.2 8).2.2).1,
      (readL n (numR (numR e l 1).2.1 (numR e l 1).2.2 8).2.1 (numR (numR e l 1).2.1 (numR e l 1).2.2 8).2.2).2)
def zeroQ : ReqP := ⟨0, 0, 0, [], 0, 0, 0, 0⟩
/-- a request whose kind was read -/
def bodyR (k : UInt8) (r : List UInt8) : ReqP × Int × List UInt8 :=
  if k = 1 then
    (if 3 < (numR (numR (numR 0 r 4).2.1 (numR 0 r 4).2.2 1).2.1 (numR (numR 0 r 4).2.1 (numR 0 r 4).2.2 1).2.2 1).1 then (zeroQ, 8, [])
     else (⟨k, (numR 0 r 4).1, UInt8.ofNat (numR (numR 0 r 4).2.1 (numR 0 r 4).2.2 1).1,
       (readL (numR (numR (numR 0 r 4).2.1 (numR 0 r 4).2.2 1).2.1 (numR (numR 0 r 4).2.1 (numR 0 r 4).2.2 1).2.2 1).1 (numR (numR (numR 0 r 4).2.1 (numR 0 r 4).2.2 1).2.1 (numR (numR 0 r 4).2.1 (numR 0 r 4).2.2 1).2.2 1).2.1 (numR (numR (numR 0 r 4).2.1 (numR 0 r 4).2.2 1).2.1 (numR (numR 0 r 4).2.1 (numR 0 r 4).2.2 1).2.2 1).2.2).1, 0, 0, 0, 0⟩,
       (readL (numR (numR (numR 0 r 4).2.1 (numR 0 r 4).2.2 1).2.1 (numR (numR 0 r 4).2.1 (numR 0 r 4).2.2 1).2.2 1).1 (numR (numR (numR 0 r 4).2.1 (numR 0 r 4).2.2 1).2.1 (numR (numR 0 r 4).2.1 (numR 0 r 4).2.2 1).2.2 1).2.1 (numR (numR (numR 0 r 4).2.1 (numR 0 r 4).2.2 1).2.1 (numR (numR 0 r 4).2.1 (numR 0 r 4).2.2 1).2.2 1).2.2).2))
  else if k.toNat ≤ 4 then (⟨k, (numR 0 r 4).1, 0, [], 0, 0, 0, 0⟩, (numR 0 r 4).2)
  else if k = 5 then
    (⟨k, 0, 0, [], UInt8.ofNat (numR 0 r 1).1, 0, UInt8.ofNat (numR (numR 0 r 1).2.1 (numR 0 r 1).2.2 1).1, wrap64 ((numR (numR (numR 0 r 1).2.1 (numR 0 r 1).2.2 1).2.1 (numR (numR 0 r 1).2.1 (numR 0 r 1).2.2 1).2.2 8).1 : Int)⟩,
      (numR (numR (numR 0 r 1).2.1 (numR 0 r 1).2.2 1).2.1 (numR (numR 0 r 1).2.1 (numR 0 r 1).2.2 1).2.2 8).2)
  else if k = 6 then
    (⟨k, 0, 0, [], UInt8.ofNat (numR 0 r 1).1, UInt8.ofNat (numR (numR 0 r 1).2.1 (numR 0 r 1).2.2 1).1, UInt8.ofNat (numR (numR (numR 0 r 1).2.1 (numR 0 r 1).2.2 1).2.1 (numR (numR 0 r 1).2.1 (numR 0 r 1).2.2 1).2.2 1).1,
       wrap64 ((numR (numR (numR (numR 0 r 1).2.1 (numR 0 r 1).2.2 1).2.1 (numR (numR 0 r 1).2.1 (numR 0 r 1).2.2 1).2.2 1).2.1 (numR (numR (numR 0 r 1).2.1 (numR 0 r 1).2.2 1).2.1 (numR (numR 0 r 1).2.1 (numR 0 r 1).2.2 1).2.2 1).2.2 8).1 : Int)⟩,
      (numR (numR (numR (numR 0 r 1).2.1 (numR 0 r 1).2.2 1).2.1 (numR (numR 0 r 1).2.1 (numR 0 r 1).2.2 1).2.2 1).2.1 (numR (numR (numR 0 r 1).2.1 (numR 0 r 1).2.2 1).2.1 (numR (numR 0 r 1).2.1 (numR 0 r 1).2.2 1).2.2 1).2.2 8).2)
  else (⟨k, 0, 0, [], UInt8.ofNat (numR 0 r 1).1, 0, 0, 0⟩, (numR 0 r 1).2)
/-- what 'Decode' says -/
def decR : List UInt8 → ReqP × Int
  | [] => (zeroQ, 6)
  | k :: r => if k.toNat < 1 ∨ 7 < k.toNat then (zeroQ, 8) else if endR (bodyR k r).2.1 (bodyR k r).2.2 ≠ 0 then (zeroQ, endR (bodyR k r).2.1 (bodyR k r).2.2) else ((bodyR k r).1, 0)
theorem decR_cons (k : UInt8) (r : List UInt8) : decR (k :: r) = if k.toNat < 1 ∨ 7 < k.toNat then (zeroQ, 8) else if endR (bodyR k r).2.1 (bodyR k r).2.2 ≠ 0 then (zeroQ, endR (bodyR k r).2.1 (bodyR k r).2.2) else ((bodyR k r).1, 0) := rfl
def DecQPost (w : World) (t : ReqP × Int) (r : Ending) (w' : World) : Prop :=
  ∃ a n c, r = .returned (.tuple #[.agg #[.int .u8 (t.1.k.toNat : Int), .int .u32 (t.1.o : Int), .int .u8 (t.1.p.toNat : Int), .slice a n c, .int .u8 (t.1.s.toNat : Int), .int .u8 (t.1.f.toNat : Int), .int .u8 (t.1.t.toNat : Int), .int .i64 t.1.q], .int .i64 t.2]) ∧ ReqB w' t.1 a n c ∧ w.grownBy w' none
theorem endR_ill {e : Int} (he : e ≠ 0) (l : List UInt8) : endR e l = e := by
  unfold endR
  simp [he]
theorem numR_cons (k : UInt8) (r : List UInt8) : numR 0 (k :: r) 1 = (k.toNat, 0, r) :=
  (numR_fit (n := 1) (by decide) (by decide) (by simp)).trans (by simp [valN])
theorem grow8 (w : World) (g : Nat) (a b c d e f h i : Value) : w.grownBy ((((((((w.setCell ⟨g, 0, none⟩ a).setCell ⟨g, 1, none⟩ b).setCell ⟨g, 2, none⟩ c).setCell ⟨g, 3, none⟩ d).setCell ⟨g, 4, none⟩ e).setCell ⟨g, 5, none⟩ f).setCell ⟨g, 6, none⟩ h).setCell ⟨g, 7, none⟩ i) (some g) :=
  grown_same (grown_same (grown_same (grown_same (grown_same (grown_same (grown_same (grown_setCell _ _ _ _) (grown_setCell _ _ _ _)) (grown_setCell _ _ _ _)) (grown_setCell _ _ _ _)) (grown_setCell _ _ _ _)) (grown_setCell _ _ _ _)) (grown_setCell _ _ _ _)) (grown_setCell _ _ _ _)
theorem u8w (x : Nat) (_ : x < 256) : IntKind.u8.wrap (x : Int) = ((UInt8.ofNat x).toNat : Int) := by
  simp [IntKind.wrap, IntKind.signed, IntKind.bits]
theorem u32w (x : Nat) (h : x < 4294967296) : IntKind.u32.wrap (x : Int) = (x : Int) := by
  simp [IntKind.wrap, IntKind.signed, IntKind.bits]; omega
theorem LineList.keptX {w w' : World} {a : Option Addr} {L : List LineP} (h : LineList w a L) {q : Nat} (hg : w.grownBy w' (some q)) (hq : ∀ ad, a = some ad → ad.block ≠ q) : LineList w' a L := by
  intro i hi
  obtain ⟨b, o, e, h0, h1⟩ := h i hi
  have hb : b ≠ q := hq _ e
  refine ⟨b, o, e, ?_, ?_⟩
  · rw [World.cell?_of_block (a := ⟨b, o + i * 2, none⟩) (hg.block b (World.block_lt_of_cell? w _ h0) (by simpa using hb))]; exact h0
  · rw [World.cell?_of_block (a := ⟨b, o + i * 2 + 1, none⟩) (hg.block b (World.block_lt_of_cell? w _ h1) (by simpa using hb))]; exact h1

theorem info_line : (Try.prog.info? 73).map (fun i => (i.zero, i.size, i.bytes)) = some (some (.agg #[.int .u8 0, .int .i64 0]), 2, 16) := by kernel_rfl
theorem line_one (x : LineP) : ∀ u ∈ lineCells x, u.oneCell' = true := by
  intro u hu
  simp only [lineCells, List.mem_cons, List.not_mem_nil, or_false] at hu
  rcases hu with rfl | rfl <;> rfl
theorem own_lines {w : World} {B : Nat} {T : TypeId} {a : Option Addr} {n c : Nat} {L : List LineP} (h : OwnR w B T 2 (.slice a n c) (L.map lineCells)) : LineList w a L ∧ L.length = n ∧ n ≤ maxLen ∧ ∀ ad, a = some ad → B ≤ ad.block := by
  have he := h.elems
  have h2 := h.2.2
  refine ⟨fun i hi => ?_, ?_⟩
  · obtain ⟨b, o, e, hc⟩ := he i (by simpa using hi)
    refine ⟨b, o, e, ?_, ?_⟩
    · have := hc 0 (by decide); simpa [lineCells] using this
    · have := hc 1 (by decide); simpa [lineCells] using this
  · rcases h2 with ⟨hv, h0⟩ | ⟨g, cap, cur, hv, hb, hg, hn, hm, hs, ht⟩
    · cases hv
      exact ⟨by simpa using h0, by simp [maxLen], fun ad h => by cases h⟩
    · cases hv
      exact ⟨by simp, by simpa using Nat.le_trans hn hm, fun ad h => by cases h; exact hb⟩
def ReadRel (w0 w : World) (bx g : Nat) (X : Nat → Prop) (k : UInt8) (xo : Nat) (xp : UInt8) (N : Nat) (LL : List LineP) (eE : Int) (lE : List UInt8) (i : Value) (wr : World) : Prop :=
  ∃ (j : Nat) (e : Int) (l : List UInt8) (acc : List LineP) (v : Value), j ≤ N ∧ i = .int .i64 j ∧ acc.length = j ∧ (LL, eE, lE) = (acc ++ (readL (N - j) e l).1, (readL (N - j) e l).2) ∧
    OwnR wr (bx + 1) 73 2 v (acc.map lineCells) ∧ Rd w0 wr g X (e, l) ∧
    Box wr bx 25 [.int .u8 (k.toNat : Int), .int .u32 (xo : Int), .int .u8 (xp.toNat : Int), v, .int .u8 0, .int .u8 0, .int .u8 0, .int .i64 0] ∧
    Box wr w.heap.size 25 [.int .u8 0, .int .u32 0, .int .u8 0, .slice none 0 0, .int .u8 0, .int .u8 0, .int .u8 0, .int .i64 0]

set_option maxHeartbeats 6400000 in
theorem req_decode (a : Option Addr) (n c : Nat) (l : List UInt8) (w : World) (hn : l.length = n) (hr : RB w a l) (hm : n ≤ 140737488355327) :
    Calls Try.prog 14 #[.slice a n c] w (DecQPost w (decR l)) := by
  have HC := Lib.hid (Rd.new a n c l (w.alloc (.cells #[.int .u8 0, .int .u32 0, .int .u8 0, .slice none 0 0, .int .u8 0, .int .u8 0, .int .u8 0, .int .i64 0] 25)) hn (hr.alloc _) hm)
  have HBR0 := Lib.hid (Box.new w 25 [.int .u8 0, .int .u32 0, .int .u8 0, .slice none 0 0, .int .u8 0, .int .u8 0, .int .u8 0, .int .i64 0] w.heap.size rfl)
  obtain ⟨T, hT⟩ : ∃ T, decR l = T := ⟨_, rfl⟩
  rw [hT]
  have HT := Lib.hid hT
  have HGA := Lib.hid (World.grownBy_alloc w (.cells #[.int .u8 0, .int .u32 0, .int .u8 0, .slice none 0 0, .int .u8 0, .int .u8 0, .int .u8 0, .int .i64 0] 25) none)
  have SI := set_idx
  have SF := set_far
  clear hn hr hm hT
  go_enter Try.func14, Try.ntmps14
  go_wp2_with fail
  refine HC.out.mono ?_
  rintro r w1 ⟨g, rfl, hR⟩
  obtain ⟨X, hX⟩ : ∃ X, OutX (w.alloc (.cells #[.int .u8 0, .int .u32 0, .int .u8 0, .slice none 0 0, .int .u8 0, .int .u8 0, .int .u8 0, .int .i64 0] 25)).heap.size g = X := ⟨_, rfl⟩
  have hXg : ∀ k, g ≤ k → X k := fun k hk => by rw [← hX]; exact .inr hk
  rw [hX] at hR
  have HX := Lib.hid hXg
  have hlow : w.heap.size < g := by have := hR.low; simp at this; omega
  have hgx : g < w1.heap.size := hR.lt
  have HR0 := Lib.hid (hR.grown (World.grownBy_alloc w1 (.cells #[.int .u8 0, .int .u32 0, .int .u8 0, .slice none 0 0, .int .u8 0, .int .u8 0, .int .u8 0, .int .i64 0] 25) none))
  have HG0 := Lib.hid (grown_trans HGA.out hR.gr)
  have HBR1 := Lib.hid ((HBR0.out.grown hR.gr).alloc (.cells #[.int .u8 0, .int .u32 0, .int .u8 0, .slice none 0 0, .int .u8 0, .int .u8 0, .int .u8 0, .int .i64 0] 25))
  have HBX0 := Lib.hid (Box.new w1 25 [.int .u8 0, .int .u32 0, .int .u8 0, .slice none 0 0, .int .u8 0, .int .u8 0, .int .u8 0, .int .i64 0] w1.heap.size rfl)
  clear hR hX hXg
  go_wp2_with fail
  generalize w1.alloc (.cells #[.int .u8 0, .int .u32 0, .int .u8 0, .slice none 0 0, .int .u8 0, .int .u8 0, .int .u8 0, .int .i64 0] 25) = w2 at *
  generalize w1.heap.size = bx at *
  have hne : bx ≠ g := by omega
  have hne2 : g ≠ bx := by omega
  have hneR : g ≠ w.heap.size := by omega
  have hneR2 : w.heap.size ≠ g := by omega
  have hbw : bx ≠ w.heap.size := by omega
  have hbw2 : w.heap.size ≠ bx := by omega
  have hXb := HX.out bx (by omega)
  have hlb : (w.alloc (.cells #[.int .u8 0, .int .u32 0, .int .u8 0, .slice none 0 0, .int .u8 0, .int .u8 0, .int .u8 0, .int .i64 0] 25)).heap.size ≤ bx := by simp; omega
  have HXB := Lib.hid hXb; have HLB := Lib.hid hlb
  clear hXb hlb
  rcases l with _ | ⟨k, rs⟩
  · have BX2 := HBX0; have BR2 := HBR1; have HR2 := HR0
    have HN := Lib.hid (show numR 0 [] 1 = (0, 6, []) from numR_short (n := 1) (by decide) (by decide) (by simp))
    have HT6 := Lib.hid (show T = (zeroQ, 6) from HT.out.symm)
    go_wp2_with fail
    have hc := HR2.out.num 1
    simp only at hc
    rw [show numR (0 : Int) [] 1 = _ from HN.out] at hc
    refine hc.mono ?_
    clear hc
    rintro r w3 ⟨rfl, hR, hg⟩
    have BXa := Lib.hid (BX2.out.kept hg (by simpa using hne2))
    have BRa := Lib.hid (BR2.out.kept hg (by simpa using hneR))
    have XL3 := BXa.out.look
    have XO3 := BXa.out.open
    have YL3 := BRa.out.look
    have YO3 := BRa.out.open
    have HR3 := Lib.hid (hR.set hne HXB.out HLB.out 0 (.int .u8 0))
    have BX3 := Lib.hid ((BXa.out.set 0 (.int .u8 0)))
    have BR3 := Lib.hid ((BRa.out.kept (grown_setCell _ bx 0 (.int .u8 0)) (by simpa using hbw)))
    clear hR hg BXa BRa
    have HO := Lib.hid (req_ordered 0)
    rw [show orderedF 0 = false from by decide] at HO
    have HM := Lib.hid (req_moved 0)
    rw [show movedF 0 = false from by decide] at HM
    have HN6 := Lib.hid (show numR 6 [] 1 = (0, 6, []) from numR_ill (by decide) [] (n := 1) (by decide) (by decide))
    go_wp2_with fail
    refine HR3.out.err.mono ?_
    rintro r w9 ⟨rfl, rfl⟩
    simp only
    have XF := BX3.out.look
    go_wp2_with fail
    refine (HO.out _).mono ?_
    rintro r w9 ⟨rfl, rfl⟩
    clear XF
    go_wp2_with fail
    have hc := HR3.out.num 1
    simp only at hc
    rw [show numR (6 : Int) [] 1 = _ from HN6.out] at hc
    refine hc.mono ?_
    clear hc
    rintro r w4 ⟨rfl, hR, hg⟩
    have BXa := Lib.hid (BX3.out.kept hg (by simpa using hne2))
    have BRa := Lib.hid (BR3.out.kept hg (by simpa using hneR))
    clear XL3 XO3 YL3 YO3
    have XL4 := BXa.out.look
    have XO4 := BXa.out.open
    have YL4 := BRa.out.look
    have YO4 := BRa.out.open
    have HR4 := Lib.hid (hR.set hne HXB.out HLB.out 4 (.int .u8 0))
    have BX4 := Lib.hid ((BXa.out.set 4 (.int .u8 0)))
    have BR4 := Lib.hid ((BRa.out.kept (grown_setCell _ bx 4 (.int .u8 0)) (by simpa using hbw)))
    clear hR hg BXa BRa
    go_wp2_with fail
    refine (HM.out _).mono ?_
    rintro r w9 ⟨rfl, rfl⟩
    have HTB := Lib.hid (show T = if endR 6 [] ≠ 0 then (zeroQ, endR 6 []) else (zeroQ, 0) by rw [HT6.out, if_pos (by decide)]; rfl)
    go_wp2_with fail
    refine HR4.out.end'.mono ?_
    rintro r w9 ⟨rfl, rfl⟩
    simp only
    have XF := BX4.out.look
    have XG := BX4.out.open
    have YF := BR4.out.look
    have YG := BR4.out.open
    have HGF := Lib.hid (grown_trans HGA.out HR4.out.gr)
    by_cases hend : endR 6 [] = 0
    · rw [hend]
      have HTT := Lib.hid (show T = (zeroQ, 0) from by rw [HTB.out, if_neg (by simpa using hend)])
      clear hend
      go_wp2_with fail
      refine bodyPost_ret (v := .tuple #[.agg #[.int .u8 0, .int .u32 0, .int .u8 0, .slice none 0 0, .int .u8 0, .int .u8 0, .int .u8 0, .int .i64 0], .int .i64 0]) ?_ rfl ?_
      · simp only [results]
        go_simp
      · rw [HTT.out]
        have hs8 := fun W => grow8 W w.heap.size (.int .u8 0) (.int .u32 0) (.int .u8 0) (.slice none 0 0) (.int .u8 0) (.int .u8 0) (.int .u8 0) (.int .i64 0)
        exact ⟨_, _, _, rfl, ⟨rfl, LineList.nil _ _, by simp [maxLen]⟩, grown_new HGF.out (Nat.le_refl _) (hs8 _)⟩
    · obtain ⟨ee, hee⟩ : ∃ ee, endR 6 [] = ee := ⟨_, rfl⟩
      have HTT := Lib.hid (show T = (zeroQ, ee) from by rw [HTB.out, if_pos hend, hee])
      rw [hee] at hend ⊢
      have h1 : (ee == 0) = false := by simpa using hend
      have h2 : (ee != 0) = true := by simpa using hend
      clear hend hee
      go_wp2_with fail
      refine bodyPost_ret (v := .tuple #[.agg #[.int .u8 0, .int .u32 0, .int .u8 0, .slice none 0 0, .int .u8 0, .int .u8 0, .int .u8 0, .int .i64 0], .int .i64 ee]) ?_ rfl ?_
      · simp only [results]
        go_simp
      · rw [HTT.out]
        have hs8 := fun W => grow8 W w.heap.size (.int .u8 0) (.int .u32 0) (.int .u8 0) (.slice none 0 0) (.int .u8 0) (.int .u8 0) (.int .u8 0) (.int .i64 0)
        exact ⟨none, 0, 0, rfl, ⟨rfl, LineList.nil _ _, by simp [maxLen]⟩, grown_new HGF.out (Nat.le_refl _) (hs8 _)⟩
  · have BX2 := HBX0; have BR2 := HBR1; have HR2 := HR0
    have hu := k.toNat_lt
    have hwk : IntKind.u8.wrap (k.toNat : Int) = (k.toNat : Int) := by simp [IntKind.wrap, IntKind.signed, IntKind.bits]; omega
    have HN := Lib.hid (numR_cons k rs)
    have HTB := Lib.hid (HT.out.symm.trans (decR_cons k rs))
    go_wp2_with fail
    have hc := HR2.out.num 1
    simp only at hc
    rw [show numR (0 : Int) (k :: rs) 1 = _ from HN.out] at hc
    refine hc.mono ?_
    clear hc
    rintro r w3 ⟨rfl, hR, hg⟩
    have BXa := Lib.hid (BX2.out.kept hg (by simpa using hne2))
    have BRa := Lib.hid (BR2.out.kept hg (by simpa using hneR))
    have XL3 := BXa.out.look
    have XO3 := BXa.out.open
    have YL3 := BRa.out.look
    have YO3 := BRa.out.open
    have HR3 := Lib.hid (hR.set hne HXB.out HLB.out 0 (.int .u8 (k.toNat : Int)))
    have BX3 := Lib.hid ((BXa.out.set 0 (.int .u8 (k.toNat : Int))))
    have BR3 := Lib.hid ((BRa.out.kept (grown_setCell _ bx 0 (.int .u8 (k.toNat : Int))) (by simpa using hbw)))
    clear hR hg BXa BRa
    go_wp2_with fail
    refine HR3.out.err.mono ?_
    rintro r w9 ⟨rfl, rfl⟩
    simp only
    by_cases hbk : k.toNat < 1 ∨ 7 < k.toNat
    · have HTT := Lib.hid (show T = (zeroQ, 8) by rw [HTB.out, if_pos hbk])
      have YF := BR3.out.look
      have YG := BR3.out.open
      have HGF := Lib.hid (grown_trans HGA.out HR3.out.gr)
      have hbk' : (k.toNat : Int) < 1 ∨ 7 < (k.toNat : Int) := by omega
      rcases hbk' with hbk' | hbk'
      all_goals (
        go_wp2_with fail
        refine bodyPost_ret (v := .tuple #[.agg #[.int .u8 0, .int .u32 0, .int .u8 0, .slice none 0 0, .int .u8 0, .int .u8 0, .int .u8 0, .int .i64 0], .int .i64 8]) ?_ rfl ?_
        · simp only [results]
          go_simp
        · rw [HTT.out]
          have hs8 := fun W => grow8 W w.heap.size (.int .u8 0) (.int .u32 0) (.int .u8 0) (.slice none 0 0) (.int .u8 0) (.int .u8 0) (.int .u8 0) (.int .i64 0)
          exact ⟨none, 0, 0, rfl, ⟨rfl, LineList.nil _ _, by simp [maxLen]⟩, grown_new HGF.out (Nat.le_refl _) (hs8 _)⟩)
    · have hb1 : (1 : Int) ≤ (k.toNat : Int) := by omega
      have hb7 : (k.toNat : Int) ≤ 7 := by omega
      have q1 : ((k.toNat : Int) == 1) = decide (k = 1) := k_eq k 1 (by decide)
      have q6 : ((k.toNat : Int) == 6) = decide (k = 6) := k_eq k 6 (by decide)
      have q5 : ((k.toNat : Int) == 5) = decide (k = 5) := k_eq k 5 (by decide)
      have HO := Lib.hid (fun u => req_ordered (k.toNat : Int) u)
      have HM := Lib.hid (fun u => req_moved (k.toNat : Int) u)
      rw [show movedF (k.toNat : Int) = (decide (k = 5) || decide (k = 6)) by unfold movedF; rw [q5, q6]] at HM
      rw [if_neg hbk] at HTB
      clear q5
      by_cases e1 : k = 1
      · obtain ⟨BB, hB0⟩ : ∃ B, bodyR k rs = B := ⟨_, rfl⟩
        have hbd := hB0
        unfold bodyR at hbd
        rw [if_pos e1] at hbd
        have hxl := numR_less (0 : Int) rs 4 (by decide) (by decide)
        obtain ⟨⟨xo, y1, l1⟩, hx⟩ : ∃ t, numR (0 : Int) rs 4 = t := ⟨_, rfl⟩
        rw [show numR (0 : Int) rs ((4 : Nat) : Int) = numR (0 : Int) rs 4 from rfl, hx] at hxl
        rw [hx] at hbd
        simp only at hxl hbd
        have Hxo := Lib.hid hx
        have hlxo := hxl
        clear hx hxl
        have hxl := numR_less y1 l1 1 (by decide) (by decide)
        obtain ⟨⟨xp, y2, l2⟩, hx⟩ : ∃ t, numR y1 l1 1 = t := ⟨_, rfl⟩
        rw [show numR y1 l1 ((1 : Nat) : Int) = numR y1 l1 1 from rfl, hx] at hxl
        rw [hx] at hbd
        simp only at hxl hbd
        have Hxp := Lib.hid hx
        have hlxp := hxl
        clear hx hxl
        have hxl := numR_less y2 l2 1 (by decide) (by decide)
        obtain ⟨⟨xn, y3, l3⟩, hx⟩ : ∃ t, numR y2 l2 1 = t := ⟨_, rfl⟩
        rw [show numR y2 l2 ((1 : Nat) : Int) = numR y2 l2 1 from rfl, hx] at hxl
        rw [hx] at hbd
        simp only at hxl hbd
        have Hxn := Lib.hid hx
        have hlxn := hxl
        clear hx hxl
        have hwo := u32w xo (by simpa using hlxo)
        have hwp := u8w xp (by simpa using hlxp)
        have hwn : IntKind.i64.wrap (xn : Int) = (xn : Int) := by simp at hlxn; simp [IntKind.wrap, IntKind.signed, IntKind.bits]; omega
        rw [decide_eq_true e1] at q1
        have e6 : ¬ k = 6 := by rw [e1]; decide
        have e5 : ¬ k = 5 := by rw [e1]; decide
        rw [decide_eq_false e6] at q6
        rw [decide_eq_false e5, decide_eq_false e6] at HM
        have ho : orderedF (k.toNat : Int) = true := by rw [e1]; decide
        rw [ho] at HO
        have HBD := Lib.hid (hB0.trans hbd.symm)
        clear e1 e5 e6 ho hbd hB0 hlxo hlxp hlxn
        go_wp2_with fail
        refine (HO.out _).mono ?_
        rintro r w9 ⟨rfl, rfl⟩
        go_wp2_with fail
        have hc := HR3.out.num 4
        simp only at hc
        rw [show numR (0 : Int) rs 4 = _ from Hxo.out] at hc
        refine hc.mono ?_
        clear hc
        rintro r w4 ⟨rfl, hR, hg⟩
        have BXa := Lib.hid (BX3.out.kept hg (by simpa using hne2))
        have BRa := Lib.hid (BR3.out.kept hg (by simpa using hneR))
        clear XL3 XO3 YL3 YO3
        have XL4 := BXa.out.look
        have XO4 := BXa.out.open
        have YL4 := BRa.out.look
        have YO4 := BRa.out.open
        have HR4 := Lib.hid (hR.set hne HXB.out HLB.out 1 (.int .u32 (xo : Int)))
        have BX4 := Lib.hid ((BXa.out.set 1 (.int .u32 (xo : Int))))
        have BR4 := Lib.hid ((BRa.out.kept (grown_setCell _ bx 1 (.int .u32 (xo : Int))) (by simpa using hbw)))
        clear hR hg BXa BRa
        go_wp2_with fail
        have hc := HR4.out.num 1
        simp only at hc
        rw [show numR y1 l1 1 = _ from Hxp.out] at hc
        refine hc.mono ?_
        clear hc
        rintro r w5 ⟨rfl, hR, hg⟩
        have BXa := Lib.hid (BX4.out.kept hg (by simpa using hne2))
        have BRa := Lib.hid (BR4.out.kept hg (by simpa using hneR))
        clear XL4 XO4 YL4 YO4
        have XL5 := BXa.out.look
        have XO5 := BXa.out.open
        have YL5 := BRa.out.look
        have YO5 := BRa.out.open
        have HR5 := Lib.hid (hR.set hne HXB.out HLB.out 2 (.int .u8 ((UInt8.ofNat xp).toNat : Int)))
        have BX5 := Lib.hid ((BXa.out.set 2 (.int .u8 ((UInt8.ofNat xp).toNat : Int))))
        have BR5 := Lib.hid ((BRa.out.kept (grown_setCell _ bx 2 (.int .u8 ((UInt8.ofNat xp).toNat : Int))) (by simpa using hbw)))
        clear hR hg BXa BRa
        go_wp2_with fail
        have hc := HR5.out.num 1
        simp only at hc
        rw [show numR y2 l2 1 = _ from Hxn.out] at hc
        refine hc.mono ?_
        clear hc
        rintro r w6 ⟨rfl, hR6, hg⟩
        have BX6 := Lib.hid (BX5.out.kept hg (by simpa using hne2))
        have BR6 := Lib.hid (BR5.out.kept hg (by simpa using hneR))
        have HR6 := Lib.hid hR6
        clear XL5 XO5 YL5 YO5 hg hR6
        have XL6 := BX6.out.look
        have XO6 := BX6.out.open
        have YL6 := BR6.out.look
        have YO6 := BR6.out.open
        by_cases hn3 : 3 < xn
        · have HTT := Lib.hid (show T = (zeroQ, 8) from by rw [HTB.out, HBD.out, if_pos hn3]; rfl)
          have hn3' : (3 : Int) < (xn : Int) := by omega
          have HGF := Lib.hid (grown_trans HGA.out HR6.out.gr)
          go_wp2_with fail
          refine bodyPost_ret (v := .tuple #[.agg #[.int .u8 0, .int .u32 0, .int .u8 0, .slice none 0 0, .int .u8 0, .int .u8 0, .int .u8 0, .int .i64 0], .int .i64 8]) ?_ rfl ?_
          · simp only [results]
            go_simp
          · rw [HTT.out]
            have hs8 := fun W => grow8 W w.heap.size (.int .u8 0) (.int .u32 0) (.int .u8 0) (.slice none 0 0) (.int .u8 0) (.int .u8 0) (.int .u8 0) (.int .i64 0)
            exact ⟨none, 0, 0, rfl, ⟨rfl, LineList.nil _ _, by simp [maxLen]⟩, grown_new HGF.out (Nat.le_refl _) (hs8 _)⟩
        · rw [if_neg hn3] at HBD
          rw [HBD.out] at HTB
          simp only at HTB
          obtain ⟨⟨LL, eE, lE⟩, hRL⟩ : ∃ t, readL xn y3 l3 = t := ⟨_, rfl⟩
          rw [hRL] at HTB
          simp only at HTB
          have HRL := Lib.hid hRL
          have hn3' : (xn : Int) ≤ 3 := by omega
          clear hRL HBD
          go_wp2_with fail
          go_loopw [54] (fun i wr => ReadRel (w.alloc (.cells #[.int .u8 0, .int .u32 0, .int .u8 0, .slice none 0 0, .int .u8 0, .int .u8 0, .int .u8 0, .int .i64 0] 25)) w bx g X k xo (UInt8.ofNat xp) xn LL eE lE i wr) (fun i _ => xn - (intOf i).toNat)
          case atStart =>
            exact ⟨0, y3, l3, [], _, Nat.zero_le _, rfl, rfl, by rw [Nat.sub_zero, HRL.out]; rfl, OwnR.nil _ _ _ _, HR6.out, BX6.out, BR6.out⟩
          case round =>
            obtain ⟨j, e, l, acc, v, hj, rfl, hacc, hrd, hown, hR, hbx, hbr⟩ := hrel
            have HACC := Lib.hid hacc; have HRDL := Lib.hid hrd; have HOWN := Lib.hid hown; have HR := Lib.hid hR; have HBX := Lib.hid hbx; have HBR := Lib.hid hbr
            clear hacc hrd hown hR hbx hbr HR6 BX6 BR6 XL6 XO6 YL6 YO6
            by_cases hlt : j < xn
            · obtain ⟨M, hM⟩ : ∃ M, xn - j = M + 1 := ⟨xn - j - 1, by omega⟩
              have hM' : xn - (j + 1) = M := by omega
              have hrd := HRDL.out
              rw [hM] at hrd
              unfold readL at hrd
              have hxl := numR_less e l 1 (by decide) (by decide)
              obtain ⟨⟨x1, f1, m1⟩, hx⟩ : ∃ t, numR e l 1 = t := ⟨_, rfl⟩
              rw [show numR e l ((1 : Nat) : Int) = numR e l 1 from rfl, hx] at hxl
              rw [hx] at hrd
              simp only at hxl hrd
              obtain ⟨u1, hu1, hm1, hw1⟩ : ∃ u : UInt8, UInt8.ofNat x1 = u ∧ (x1 : Int) % 256 = (u.toNat : Int) ∧ IntKind.u8.wrap (x1 : Int) = (u.toNat : Int) := ⟨_, rfl, by simp, u8w x1 (by simpa using hxl)⟩
              rw [hu1] at hrd
              have hc := (HR.out.grown (grown_drew1 wr)).num 1
              simp only at hc
              rw [hx] at hc
              have HNUM := Lib.hid hc
              clear hxl hx hc hu1
              obtain ⟨⟨x2, f2, m2⟩, hx⟩ : ∃ t, numR f1 m1 8 = t := ⟨_, rfl⟩
              rw [hx] at hrd
              simp only at hrd
              obtain ⟨zq, hzq⟩ : ∃ z, wrap64 (x2 : Int) = z := ⟨_, rfl⟩
              rw [hzq] at hrd
              have HINT := Lib.hid (fun (u : World) (hR : Rd (w.alloc (.cells #[.int .u8 0, .int .u32 0, .int .u8 0, .slice none 0 0, .int .u8 0, .int .u8 0, .int .u8 0, .int .i64 0] 25)) u g X (f1, m1)) => show Calls Try.prog 46 #[.pointer (some ⟨g, 0, none⟩)] u (fun r w' => r = .returned (.int .i64 zq) ∧ Rd (w.alloc (.cells #[.int .u8 0, .int .u32 0, .int .u8 0, .slice none 0 0, .int .u8 0, .int .u8 0, .int .u8 0, .int .i64 0] 25)) w' g X (f2, m2) ∧ u.grownBy w' (some g)) by
                have hc := hR.int
                simp only at hc
                rw [hx] at hc
                simp only at hc
                rw [hzq] at hc
                exact hc)
              have HNX := Lib.hid hrd
              have hvg : v.ownBlock = none ∨ v.ownBlock ≠ some g := .inr fun h => by have := (HOWN.out.lt g h).1; omega
              have hvb : v.ownBlock ≠ some bx := fun h => by have := (HOWN.out.lt bx h).1; omega
              have hvr : v.ownBlock ≠ some w.heap.size := fun h => by have := (HOWN.out.lt _ h).1; omega
              have HVG := Lib.hid hvg; have HVB := Lib.hid hvb; have HVR := Lib.hid hvr
              obtain ⟨va, vc, hv⟩ := HOWN.out.len
              rw [List.length_map, HACC.out] at hv
              have HV := Lib.hid hv
              have BXD := Lib.hid HBX.out.drew
              have XD := BXD.out.look
              have OD := BXD.out.open
              clear hvg hvb hvr hx hzq hrd hM HRDL HRL hv
              go_wp2_with fail
              go_region_law (first
                | (go_simp; go_at_call 44; (with_reducible refine HNUM.out.mono ?_); rintro r wa ⟨rfl, hRa, hga⟩; have hba := BXD.out.kept hga (by simpa using hne2); have hal := hba.look; have hao := hba.open; have hoa := (HOWN.out.grown (grown_drew1 wr)).kept hga HVG.out; have hra := HBR.out.drew.kept hga (by simpa using hneR))
                | (go_simp; go_at_call 46; (with_reducible refine (HINT.out _ hRa).mono ?_); rintro r wb ⟨rfl, hRb, hgb⟩; have hbb := hba.kept hgb (by simpa using hne2); have hbl := hbb.look; have hbo := hbb.open; have hbla := fun o => (hbb.alloc o).look; have hob := hoa.kept hgb HVG.out; have hrb := hra.kept hgb (by simpa using hneR))
                | (refine step_append_elem rfl _ _ 23 73 rfl Try.underlying23 _ 2 16 info_line rfl (by decide) (hob.grown (World.grownBy_alloc _ (.cells (lineCells (u1, zq)).toArray 73) none)) rfl (heap_new_at _ _ _ (by simp)) rfl rfl (line_one (u1, zq)) (by rw [List.length_map, HACC.out]; omega) (by rw [List.length_map, HACC.out]; omega) (Nat.le_trans hbb.lt (World.grownBy_alloc _ _ none).size) ?_; intro g' cap wc hoc hgc hkc; have hbc := (hbb.alloc _).kept hgc HVB.out; have hcl := hbc.look; have hco := hbc.open))
              all_goals (
                go_wp2_with fail
                go_roundw
                case rel =>
                  refine ⟨j + 1, f2, m2, acc ++ [(u1, zq)], .slice (some ⟨g', 0, none⟩) (acc.length + 1) cap, by omega, by go_num, by rw [List.length_append, HACC.out]; rfl, ?_, ?_, ?_, ?_, ?_⟩
                  · rw [hM', HNX.out]; simp
                  · rw [List.map_append]
                    have hoc := hoc
                    simp only [List.length_map] at hoc
                    exact hoc.kept (grown_setCell _ bx 3 _) (.inr fun h => by have := (hoc.lt _ h).1; omega)
                  · exact ((hRb.grown (World.grownBy_alloc _ _ none)).row hgc (fun q hq => by have := (HOWN.out.lt q hq).1; exact ⟨by omega, HX.out q (by omega), by have := HLB.out; omega⟩)).set hne HXB.out HLB.out 3 _
                  · exact hbc.set 3 _
                  · exact ((hrb.alloc _).kept hgc HVR.out).kept (grown_setCell _ bx 3 _) (by simpa using hbw)
                case measure => simp [intOf]; omega)
            · obtain rfl : j = xn := by omega
              have hrd := HRDL.out
              rw [Nat.sub_self] at hrd
              simp only [readL, List.append_nil, Prod.mk.injEq] at hrd
              obtain ⟨rfl, rfl, rfl⟩ := hrd
              obtain ⟨va, vc, hv⟩ := HOWN.out.len
              subst hv
              have hol := own_lines HOWN.out
              rw [List.length_map] at hol
              have HOL := Lib.hid hol
              have XF := HBX.out.look
              have XG := HBX.out.open
              have YF := HBR.out.look
              have YG := HBR.out.open
              have HGF := Lib.hid (grown_trans HGA.out HR.out.gr)
              clear hol HRDL HOWN HRL
              go_wp2_with fail
              refine (HM.out _).mono ?_
              rintro r w9 ⟨rfl, rfl⟩
              go_wp2_with fail
              refine HR.out.end'.mono ?_
              rintro r w9 ⟨rfl, rfl⟩
              simp only
              by_cases hend : endR eE lE = 0
              · rw [hend]
                have HTT := Lib.hid (show T = (⟨k, xo, UInt8.ofNat xp, LL, 0, 0, 0, 0⟩, 0) from by rw [HTB.out, if_neg (by simpa using hend)])
                clear hend
                go_wp2_with fail
                refine bodyPost_ret (v := .tuple #[.agg #[.int .u8 (k.toNat : Int), .int .u32 (xo : Int), .int .u8 ((UInt8.ofNat xp).toNat : Int), .slice va LL.length vc, .int .u8 0, .int .u8 0, .int .u8 0, .int .i64 0], .int .i64 0]) ?_ rfl ?_
                · simp only [results]
                  go_simp
                · rw [HTT.out]
                  have hs8 := fun W => grow8 W w.heap.size (.int .u8 (k.toNat : Int)) (.int .u32 (xo : Int)) (.int .u8 ((UInt8.ofNat xp).toNat : Int)) (.slice va LL.length vc) (.int .u8 0) (.int .u8 0) (.int .u8 0) (.int .i64 0)
                  exact ⟨_, _, _, rfl, ⟨rfl, HOL.out.1.keptX (hs8 _) (fun ad h => by have := HOL.out.2.2.2 ad h; omega), HOL.out.2.2.1⟩, grown_new HGF.out (Nat.le_refl _) (hs8 _)⟩
              · obtain ⟨ee, hee⟩ : ∃ ee, endR eE lE = ee := ⟨_, rfl⟩
                have HTT := Lib.hid (show T = (zeroQ, ee) from by rw [HTB.out, if_pos hend, hee])
                rw [hee] at hend ⊢
                have h1 : (ee == 0) = false := by simpa using hend
                have h2 : (ee != 0) = true := by simpa using hend
                clear hend hee
                go_wp2_with fail
                refine bodyPost_ret (v := .tuple #[.agg #[.int .u8 0, .int .u32 0, .int .u8 0, .slice none 0 0, .int .u8 0, .int .u8 0, .int .u8 0, .int .i64 0], .int .i64 ee]) ?_ rfl ?_
                · simp only [results]
                  go_simp
                · rw [HTT.out]
                  have hs8 := fun W => grow8 W w.heap.size (.int .u8 0) (.int .u32 0) (.int .u8 0) (.slice none 0 0) (.int .u8 0) (.int .u8 0) (.int .u8 0) (.int .i64 0)
                  exact ⟨none, 0, 0, rfl, ⟨rfl, LineList.nil _ _, by simp [maxLen]⟩, grown_new HGF.out (Nat.le_refl _) (hs8 _)⟩
      · by_cases hk4 : k.toNat ≤ 4
        · obtain ⟨BB, hB0⟩ : ∃ B, bodyR k rs = B := ⟨_, rfl⟩
          have hbd := hB0
          unfold bodyR at hbd
          rw [if_neg e1, if_pos hk4] at hbd
          have hxl := numR_less (0 : Int) rs 4 (by decide) (by decide)
          obtain ⟨⟨xo, y1, l1⟩, hx⟩ : ∃ t, numR (0 : Int) rs 4 = t := ⟨_, rfl⟩
          rw [show numR (0 : Int) rs ((4 : Nat) : Int) = numR (0 : Int) rs 4 from rfl, hx] at hxl
          rw [hx] at hbd
          simp only at hxl hbd
          have Hxo := Lib.hid hx
          have hlxo := hxl
          clear hx hxl
          rw [hB0, ← hbd] at HTB
          simp only at HTB
          have hwo := u32w xo (by simpa using hlxo)
          rw [decide_eq_false e1] at q1
          have e6 : ¬ k = 6 := by intro h; rw [h] at hk4; exact absurd hk4 (by decide)
          have e5 : ¬ k = 5 := by intro h; rw [h] at hk4; exact absurd hk4 (by decide)
          rw [decide_eq_false e6] at q6
          rw [decide_eq_false e5, decide_eq_false e6] at HM
          have ho : orderedF (k.toNat : Int) = true := by unfold orderedF; simp; omega
          rw [ho] at HO
          clear e1 e5 e6 ho hbd hB0 hlxo
          go_wp2_with fail
          refine (HO.out _).mono ?_
          rintro r w9 ⟨rfl, rfl⟩
          go_wp2_with fail
          have hc := HR3.out.num 4
          simp only at hc
          rw [show numR (0 : Int) rs 4 = _ from Hxo.out] at hc
          refine hc.mono ?_
          clear hc
          rintro r w4 ⟨rfl, hR, hg⟩
          have BXa := Lib.hid (BX3.out.kept hg (by simpa using hne2))
          have BRa := Lib.hid (BR3.out.kept hg (by simpa using hneR))
          clear XL3 XO3 YL3 YO3
          have XL4 := BXa.out.look
          have XO4 := BXa.out.open
          have YL4 := BRa.out.look
          have YO4 := BRa.out.open
          have HR4 := Lib.hid (hR.set hne HXB.out HLB.out 1 (.int .u32 (xo : Int)))
          have BX4 := Lib.hid ((BXa.out.set 1 (.int .u32 (xo : Int))))
          have BR4 := Lib.hid ((BRa.out.kept (grown_setCell _ bx 1 (.int .u32 (xo : Int))) (by simpa using hbw)))
          clear hR hg BXa BRa
          go_wp2_with fail
          refine (HM.out _).mono ?_
          rintro r w9 ⟨rfl, rfl⟩
          go_wp2_with fail
          refine HR4.out.end'.mono ?_
          rintro r w9 ⟨rfl, rfl⟩
          simp only
          have XF := BX4.out.look
          have XG := BX4.out.open
          have YF := BR4.out.look
          have YG := BR4.out.open
          have HGF := Lib.hid (grown_trans HGA.out HR4.out.gr)
          by_cases hend : endR y1 l1 = 0
          · rw [hend]
            have HTT := Lib.hid (show T = (⟨k, xo, 0, [], 0, 0, 0, 0⟩, 0) from by rw [HTB.out, if_neg (by simpa using hend)])
            clear hend
            go_wp2_with fail
            refine bodyPost_ret (v := .tuple #[.agg #[.int .u8 (k.toNat : Int), .int .u32 (xo : Int), .int .u8 0, .slice none 0 0, .int .u8 0, .int .u8 0, .int .u8 0, .int .i64 0], .int .i64 0]) ?_ rfl ?_
            · simp only [results]
              go_simp
            · rw [HTT.out]
              have hs8 := fun W => grow8 W w.heap.size (.int .u8 (k.toNat : Int)) (.int .u32 (xo : Int)) (.int .u8 0) (.slice none 0 0) (.int .u8 0) (.int .u8 0) (.int .u8 0) (.int .i64 0)
              exact ⟨_, _, _, rfl, ⟨rfl, LineList.nil _ _, by simp [maxLen]⟩, grown_new HGF.out (Nat.le_refl _) (hs8 _)⟩
          · obtain ⟨ee, hee⟩ : ∃ ee, endR y1 l1 = ee := ⟨_, rfl⟩
            have HTT := Lib.hid (show T = (zeroQ, ee) from by rw [HTB.out, if_pos hend, hee])
            rw [hee] at hend ⊢
            have h1 : (ee == 0) = false := by simpa using hend
            have h2 : (ee != 0) = true := by simpa using hend
            clear hend hee
            go_wp2_with fail
            refine bodyPost_ret (v := .tuple #[.agg #[.int .u8 0, .int .u32 0, .int .u8 0, .slice none 0 0, .int .u8 0, .int .u8 0, .int .u8 0, .int .i64 0], .int .i64 ee]) ?_ rfl ?_
            · simp only [results]
              go_simp
            · rw [HTT.out]
              have hs8 := fun W => grow8 W w.heap.size (.int .u8 0) (.int .u32 0) (.int .u8 0) (.slice none 0 0) (.int .u8 0) (.int .u8 0) (.int .u8 0) (.int .i64 0)
              exact ⟨none, 0, 0, rfl, ⟨rfl, LineList.nil _ _, by simp [maxLen]⟩, grown_new HGF.out (Nat.le_refl _) (hs8 _)⟩
        · by_cases e5 : k = 5
          · obtain ⟨BB, hB0⟩ : ∃ B, bodyR k rs = B := ⟨_, rfl⟩
            have hbd := hB0
            unfold bodyR at hbd
            rw [if_neg e1, if_neg hk4, if_pos e5] at hbd
            have hxl := numR_less (0 : Int) rs 1 (by decide) (by decide)
            obtain ⟨⟨xs, y1, l1⟩, hx⟩ : ∃ t, numR (0 : Int) rs 1 = t := ⟨_, rfl⟩
            rw [show numR (0 : Int) rs ((1 : Nat) : Int) = numR (0 : Int) rs 1 from rfl, hx] at hxl
            rw [hx] at hbd
            simp only at hxl hbd
            have Hxs := Lib.hid hx
            have hlxs := hxl
            clear hx hxl
            have hxl := numR_less y1 l1 1 (by decide) (by decide)
            obtain ⟨⟨xt, y2, l2⟩, hx⟩ : ∃ t, numR y1 l1 1 = t := ⟨_, rfl⟩
            rw [show numR y1 l1 ((1 : Nat) : Int) = numR y1 l1 1 from rfl, hx] at hxl
            rw [hx] at hbd
            simp only at hxl hbd
            have Hxt := Lib.hid hx
            have hlxt := hxl
            clear hx hxl
            have hxl := numR_less y2 l2 8 (by decide) (by decide)
            obtain ⟨⟨xq, y3, l3⟩, hx⟩ : ∃ t, numR y2 l2 8 = t := ⟨_, rfl⟩
            rw [show numR y2 l2 ((8 : Nat) : Int) = numR y2 l2 8 from rfl, hx] at hxl
            rw [hx] at hbd
            simp only at hxl hbd
            have Hxq := Lib.hid hx
            have hlxq := hxl
            clear hx hxl
            rw [hB0, ← hbd] at HTB
            simp only at HTB
            obtain ⟨qq, hqq⟩ : ∃ qq, wrap64 (xq : Int) = qq := ⟨_, rfl⟩
            rw [hqq] at HTB
            have HQQ := Lib.hid hqq
            have hwx := u8w xs (by simpa using hlxs)
            rw [decide_eq_false e1] at q1
            have ho : orderedF (k.toNat : Int) = false := by unfold orderedF; simp; omega
            rw [ho] at HO
            clear ho
            have hwt := u8w xt (by simpa using hlxt)
            have e6 : ¬ k = 6 := by rw [e5]; decide
            rw [decide_eq_false e6] at q6
            rw [decide_eq_true e5, Bool.true_or] at HM
            clear e1 e5 e6 hbd hB0 hlxs hlxt hlxq hqq
            go_wp2_with fail
            refine (HO.out _).mono ?_
            rintro r w9 ⟨rfl, rfl⟩
            go_wp2_with fail
            have hc := HR3.out.num 1
            simp only at hc
            rw [show numR (0 : Int) rs 1 = _ from Hxs.out] at hc
            refine hc.mono ?_
            clear hc
            rintro r w4 ⟨rfl, hR, hg⟩
            have BXa := Lib.hid (BX3.out.kept hg (by simpa using hne2))
            have BRa := Lib.hid (BR3.out.kept hg (by simpa using hneR))
            clear XL3 XO3 YL3 YO3
            have XL4 := BXa.out.look
            have XO4 := BXa.out.open
            have YL4 := BRa.out.look
            have YO4 := BRa.out.open
            have HR4 := Lib.hid (hR.set hne HXB.out HLB.out 4 (.int .u8 ((UInt8.ofNat xs).toNat : Int)))
            have BX4 := Lib.hid ((BXa.out.set 4 (.int .u8 ((UInt8.ofNat xs).toNat : Int))))
            have BR4 := Lib.hid ((BRa.out.kept (grown_setCell _ bx 4 (.int .u8 ((UInt8.ofNat xs).toNat : Int))) (by simpa using hbw)))
            clear hR hg BXa BRa
            go_wp2_with fail
            refine (HM.out _).mono ?_
            rintro r w9 ⟨rfl, rfl⟩
            go_wp2_with fail
            have hc := HR4.out.num 1
            simp only at hc
            rw [show numR y1 l1 1 = _ from Hxt.out] at hc
            refine hc.mono ?_
            clear hc
            rintro r w5 ⟨rfl, hR, hg⟩
            have BXa := Lib.hid (BX4.out.kept hg (by simpa using hne2))
            have BRa := Lib.hid (BR4.out.kept hg (by simpa using hneR))
            clear XL4 XO4 YL4 YO4
            have XL5 := BXa.out.look
            have XO5 := BXa.out.open
            have YL5 := BRa.out.look
            have YO5 := BRa.out.open
            have HR5 := Lib.hid hR
            have BX5 := Lib.hid (BXa.out)
            have BR5 := Lib.hid (BRa.out)
            clear hR hg BXa BRa
            go_wp2_with fail
            have hc := HR5.out.int
            simp only at hc
            rw [show numR y2 l2 8 = _ from Hxq.out] at hc
            simp only [HQQ.out] at hc
            refine hc.mono ?_
            clear hc
            rintro r w6 ⟨rfl, hR, hg⟩
            have BXa := Lib.hid (BX5.out.kept hg (by simpa using hne2))
            have BRa := Lib.hid (BR5.out.kept hg (by simpa using hneR))
            clear XL5 XO5 YL5 YO5
            have XL6 := BXa.out.look
            have XO6 := BXa.out.open
            have YL6 := BRa.out.look
            have YO6 := BRa.out.open
            have HR6 := Lib.hid ((hR.set hne HXB.out HLB.out 6 (.int .u8 ((UInt8.ofNat xt).toNat : Int))).set hne HXB.out HLB.out 7 (.int .i64 qq))
            have BX6 := Lib.hid (((BXa.out.set 6 (.int .u8 ((UInt8.ofNat xt).toNat : Int))).set 7 (.int .i64 qq)))
            have BR6 := Lib.hid (((BRa.out.kept (grown_setCell _ bx 6 (.int .u8 ((UInt8.ofNat xt).toNat : Int))) (by simpa using hbw)).kept (grown_setCell _ bx 7 (.int .i64 qq)) (by simpa using hbw)))
            clear hR hg BXa BRa
            go_wp2_with fail
            refine HR6.out.end'.mono ?_
            rintro r w9 ⟨rfl, rfl⟩
            simp only
            have XF := BX6.out.look
            have XG := BX6.out.open
            have YF := BR6.out.look
            have YG := BR6.out.open
            have HGF := Lib.hid (grown_trans HGA.out HR6.out.gr)
            by_cases hend : endR y3 l3 = 0
            · rw [hend]
              have HTT := Lib.hid (show T = (⟨k, 0, 0, [], UInt8.ofNat xs, 0, UInt8.ofNat xt, qq⟩, 0) from by rw [HTB.out, if_neg (by simpa using hend)])
              clear hend
              go_wp2_with fail
              refine bodyPost_ret (v := .tuple #[.agg #[.int .u8 (k.toNat : Int), .int .u32 0, .int .u8 0, .slice none 0 0, .int .u8 ((UInt8.ofNat xs).toNat : Int), .int .u8 0, .int .u8 ((UInt8.ofNat xt).toNat : Int), .int .i64 qq], .int .i64 0]) ?_ rfl ?_
              · simp only [results]
                go_simp
              · rw [HTT.out]
                have hs8 := fun W => grow8 W w.heap.size (.int .u8 (k.toNat : Int)) (.int .u32 0) (.int .u8 0) (.slice none 0 0) (.int .u8 ((UInt8.ofNat xs).toNat : Int)) (.int .u8 0) (.int .u8 ((UInt8.ofNat xt).toNat : Int)) (.int .i64 qq)
                exact ⟨_, _, _, rfl, ⟨rfl, LineList.nil _ _, by simp [maxLen]⟩, grown_new HGF.out (Nat.le_refl _) (hs8 _)⟩
            · obtain ⟨ee, hee⟩ : ∃ ee, endR y3 l3 = ee := ⟨_, rfl⟩
              have HTT := Lib.hid (show T = (zeroQ, ee) from by rw [HTB.out, if_pos hend, hee])
              rw [hee] at hend ⊢
              have h1 : (ee == 0) = false := by simpa using hend
              have h2 : (ee != 0) = true := by simpa using hend
              clear hend hee
              go_wp2_with fail
              refine bodyPost_ret (v := .tuple #[.agg #[.int .u8 0, .int .u32 0, .int .u8 0, .slice none 0 0, .int .u8 0, .int .u8 0, .int .u8 0, .int .i64 0], .int .i64 ee]) ?_ rfl ?_
              · simp only [results]
                go_simp
              · rw [HTT.out]
                have hs8 := fun W => grow8 W w.heap.size (.int .u8 0) (.int .u32 0) (.int .u8 0) (.slice none 0 0) (.int .u8 0) (.int .u8 0) (.int .u8 0) (.int .i64 0)
                exact ⟨none, 0, 0, rfl, ⟨rfl, LineList.nil _ _, by simp [maxLen]⟩, grown_new HGF.out (Nat.le_refl _) (hs8 _)⟩
          · by_cases e6 : k = 6
            · obtain ⟨BB, hB0⟩ : ∃ B, bodyR k rs = B := ⟨_, rfl⟩
              have hbd := hB0
              unfold bodyR at hbd
              rw [if_neg e1, if_neg hk4, if_neg e5, if_pos e6] at hbd
              have hxl := numR_less (0 : Int) rs 1 (by decide) (by decide)
              obtain ⟨⟨xs, y1, l1⟩, hx⟩ : ∃ t, numR (0 : Int) rs 1 = t := ⟨_, rfl⟩
              rw [show numR (0 : Int) rs ((1 : Nat) : Int) = numR (0 : Int) rs 1 from rfl, hx] at hxl
              rw [hx] at hbd
              simp only at hxl hbd
              have Hxs := Lib.hid hx
              have hlxs := hxl
              clear hx hxl
              have hxl := numR_less y1 l1 1 (by decide) (by decide)
              obtain ⟨⟨xf, y2, l2⟩, hx⟩ : ∃ t, numR y1 l1 1 = t := ⟨_, rfl⟩
              rw [show numR y1 l1 ((1 : Nat) : Int) = numR y1 l1 1 from rfl, hx] at hxl
              rw [hx] at hbd
              simp only at hxl hbd
              have Hxf := Lib.hid hx
              have hlxf := hxl
              clear hx hxl
              have hxl := numR_less y2 l2 1 (by decide) (by decide)
              obtain ⟨⟨xt, y3, l3⟩, hx⟩ : ∃ t, numR y2 l2 1 = t := ⟨_, rfl⟩
              rw [show numR y2 l2 ((1 : Nat) : Int) = numR y2 l2 1 from rfl, hx] at hxl
              rw [hx] at hbd
              simp only at hxl hbd
              have Hxt := Lib.hid hx
              have hlxt := hxl
              clear hx hxl
              have hxl := numR_less y3 l3 8 (by decide) (by decide)
              obtain ⟨⟨xq, y4, l4⟩, hx⟩ : ∃ t, numR y3 l3 8 = t := ⟨_, rfl⟩
              rw [show numR y3 l3 ((8 : Nat) : Int) = numR y3 l3 8 from rfl, hx] at hxl
              rw [hx] at hbd
              simp only at hxl hbd
              have Hxq := Lib.hid hx
              have hlxq := hxl
              clear hx hxl
              rw [hB0, ← hbd] at HTB
              simp only at HTB
              obtain ⟨qq, hqq⟩ : ∃ qq, wrap64 (xq : Int) = qq := ⟨_, rfl⟩
              rw [hqq] at HTB
              have HQQ := Lib.hid hqq
              have hwx := u8w xs (by simpa using hlxs)
              rw [decide_eq_false e1] at q1
              have ho : orderedF (k.toNat : Int) = false := by unfold orderedF; simp; omega
              rw [ho] at HO
              clear ho
              have hwf := u8w xf (by simpa using hlxf)
              have hwt := u8w xt (by simpa using hlxt)
              rw [decide_eq_true e6] at q6
              rw [decide_eq_true e6, Bool.or_true] at HM
              clear e1 e5 e6 hbd hB0 hlxs hlxf hlxt hlxq hqq
              go_wp2_with fail
              refine (HO.out _).mono ?_
              rintro r w9 ⟨rfl, rfl⟩
              go_wp2_with fail
              have hc := HR3.out.num 1
              simp only at hc
              rw [show numR (0 : Int) rs 1 = _ from Hxs.out] at hc
              refine hc.mono ?_
              clear hc
              rintro r w4 ⟨rfl, hR, hg⟩
              have BXa := Lib.hid (BX3.out.kept hg (by simpa using hne2))
              have BRa := Lib.hid (BR3.out.kept hg (by simpa using hneR))
              clear XL3 XO3 YL3 YO3
              have XL4 := BXa.out.look
              have XO4 := BXa.out.open
              have YL4 := BRa.out.look
              have YO4 := BRa.out.open
              have HR4 := Lib.hid (hR.set hne HXB.out HLB.out 4 (.int .u8 ((UInt8.ofNat xs).toNat : Int)))
              have BX4 := Lib.hid ((BXa.out.set 4 (.int .u8 ((UInt8.ofNat xs).toNat : Int))))
              have BR4 := Lib.hid ((BRa.out.kept (grown_setCell _ bx 4 (.int .u8 ((UInt8.ofNat xs).toNat : Int))) (by simpa using hbw)))
              clear hR hg BXa BRa
              go_wp2_with fail
              have hc := HR4.out.num 1
              simp only at hc
              rw [show numR y1 l1 1 = _ from Hxf.out] at hc
              refine hc.mono ?_
              clear hc
              rintro r w5 ⟨rfl, hR, hg⟩
              have BXa := Lib.hid (BX4.out.kept hg (by simpa using hne2))
              have BRa := Lib.hid (BR4.out.kept hg (by simpa using hneR))
              clear XL4 XO4 YL4 YO4
              have XL5 := BXa.out.look
              have XO5 := BXa.out.open
              have YL5 := BRa.out.look
              have YO5 := BRa.out.open
              have HR5 := Lib.hid (hR.set hne HXB.out HLB.out 5 (.int .u8 ((UInt8.ofNat xf).toNat : Int)))
              have BX5 := Lib.hid ((BXa.out.set 5 (.int .u8 ((UInt8.ofNat xf).toNat : Int))))
              have BR5 := Lib.hid ((BRa.out.kept (grown_setCell _ bx 5 (.int .u8 ((UInt8.ofNat xf).toNat : Int))) (by simpa using hbw)))
              clear hR hg BXa BRa
              go_wp2_with fail
              refine (HM.out _).mono ?_
              rintro r w9 ⟨rfl, rfl⟩
              go_wp2_with fail
              have hc := HR5.out.num 1
              simp only at hc
              rw [show numR y2 l2 1 = _ from Hxt.out] at hc
              refine hc.mono ?_
              clear hc
              rintro r w6 ⟨rfl, hR, hg⟩
              have BXa := Lib.hid (BX5.out.kept hg (by simpa using hne2))
              have BRa := Lib.hid (BR5.out.kept hg (by simpa using hneR))
              clear XL5 XO5 YL5 YO5
              have XL6 := BXa.out.look
              have XO6 := BXa.out.open
              have YL6 := BRa.out.look
              have YO6 := BRa.out.open
              have HR6 := Lib.hid hR
              have BX6 := Lib.hid (BXa.out)
              have BR6 := Lib.hid (BRa.out)
              clear hR hg BXa BRa
              go_wp2_with fail
              have hc := HR6.out.int
              simp only at hc
              rw [show numR y3 l3 8 = _ from Hxq.out] at hc
              simp only [HQQ.out] at hc
              refine hc.mono ?_
              clear hc
              rintro r w7 ⟨rfl, hR, hg⟩
              have BXa := Lib.hid (BX6.out.kept hg (by simpa using hne2))
              have BRa := Lib.hid (BR6.out.kept hg (by simpa using hneR))
              clear XL6 XO6 YL6 YO6
              have XL7 := BXa.out.look
              have XO7 := BXa.out.open
              have YL7 := BRa.out.look
              have YO7 := BRa.out.open
              have HR7 := Lib.hid ((hR.set hne HXB.out HLB.out 6 (.int .u8 ((UInt8.ofNat xt).toNat : Int))).set hne HXB.out HLB.out 7 (.int .i64 qq))
              have BX7 := Lib.hid (((BXa.out.set 6 (.int .u8 ((UInt8.ofNat xt).toNat : Int))).set 7 (.int .i64 qq)))
              have BR7 := Lib.hid (((BRa.out.kept (grown_setCell _ bx 6 (.int .u8 ((UInt8.ofNat xt).toNat : Int))) (by simpa using hbw)).kept (grown_setCell _ bx 7 (.int .i64 qq)) (by simpa using hbw)))
              clear hR hg BXa BRa
              go_wp2_with fail
              refine HR7.out.end'.mono ?_
              rintro r w9 ⟨rfl, rfl⟩
              simp only
              have XF := BX7.out.look
              have XG := BX7.out.open
              have YF := BR7.out.look
              have YG := BR7.out.open
              have HGF := Lib.hid (grown_trans HGA.out HR7.out.gr)
              by_cases hend : endR y4 l4 = 0
              · rw [hend]
                have HTT := Lib.hid (show T = (⟨k, 0, 0, [], UInt8.ofNat xs, UInt8.ofNat xf, UInt8.ofNat xt, qq⟩, 0) from by rw [HTB.out, if_neg (by simpa using hend)])
                clear hend
                go_wp2_with fail
                refine bodyPost_ret (v := .tuple #[.agg #[.int .u8 (k.toNat : Int), .int .u32 0, .int .u8 0, .slice none 0 0, .int .u8 ((UInt8.ofNat xs).toNat : Int), .int .u8 ((UInt8.ofNat xf).toNat : Int), .int .u8 ((UInt8.ofNat xt).toNat : Int), .int .i64 qq], .int .i64 0]) ?_ rfl ?_
                · simp only [results]
                  go_simp
                · rw [HTT.out]
                  have hs8 := fun W => grow8 W w.heap.size (.int .u8 (k.toNat : Int)) (.int .u32 0) (.int .u8 0) (.slice none 0 0) (.int .u8 ((UInt8.ofNat xs).toNat : Int)) (.int .u8 ((UInt8.ofNat xf).toNat : Int)) (.int .u8 ((UInt8.ofNat xt).toNat : Int)) (.int .i64 qq)
                  exact ⟨_, _, _, rfl, ⟨rfl, LineList.nil _ _, by simp [maxLen]⟩, grown_new HGF.out (Nat.le_refl _) (hs8 _)⟩
              · obtain ⟨ee, hee⟩ : ∃ ee, endR y4 l4 = ee := ⟨_, rfl⟩
                have HTT := Lib.hid (show T = (zeroQ, ee) from by rw [HTB.out, if_pos hend, hee])
                rw [hee] at hend ⊢
                have h1 : (ee == 0) = false := by simpa using hend
                have h2 : (ee != 0) = true := by simpa using hend
                clear hend hee
                go_wp2_with fail
                refine bodyPost_ret (v := .tuple #[.agg #[.int .u8 0, .int .u32 0, .int .u8 0, .slice none 0 0, .int .u8 0, .int .u8 0, .int .u8 0, .int .i64 0], .int .i64 ee]) ?_ rfl ?_
                · simp only [results]
                  go_simp
                · rw [HTT.out]
                  have hs8 := fun W => grow8 W w.heap.size (.int .u8 0) (.int .u32 0) (.int .u8 0) (.slice none 0 0) (.int .u8 0) (.int .u8 0) (.int .u8 0) (.int .i64 0)
                  exact ⟨none, 0, 0, rfl, ⟨rfl, LineList.nil _ _, by simp [maxLen]⟩, grown_new HGF.out (Nat.le_refl _) (hs8 _)⟩
            · obtain ⟨BB, hB0⟩ : ∃ B, bodyR k rs = B := ⟨_, rfl⟩
              have hbd := hB0
              unfold bodyR at hbd
              rw [if_neg e1, if_neg hk4, if_neg e5, if_neg e6] at hbd
              have hxl := numR_less (0 : Int) rs 1 (by decide) (by decide)
              obtain ⟨⟨xs, y1, l1⟩, hx⟩ : ∃ t, numR (0 : Int) rs 1 = t := ⟨_, rfl⟩
              rw [show numR (0 : Int) rs ((1 : Nat) : Int) = numR (0 : Int) rs 1 from rfl, hx] at hxl
              rw [hx] at hbd
              simp only at hxl hbd
              have Hxs := Lib.hid hx
              have hlxs := hxl
              clear hx hxl
              rw [hB0, ← hbd] at HTB
              simp only at HTB
              have hwx := u8w xs (by simpa using hlxs)
              rw [decide_eq_false e1] at q1
              have ho : orderedF (k.toNat : Int) = false := by unfold orderedF; simp; omega
              rw [ho] at HO
              clear ho
              rw [decide_eq_false e6] at q6
              rw [decide_eq_false e5, decide_eq_false e6] at HM
              clear e1 e5 e6 hbd hB0 hlxs
              go_wp2_with fail
              refine (HO.out _).mono ?_
              rintro r w9 ⟨rfl, rfl⟩
              go_wp2_with fail
              have hc := HR3.out.num 1
              simp only at hc
              rw [show numR (0 : Int) rs 1 = _ from Hxs.out] at hc
              refine hc.mono ?_
              clear hc
              rintro r w4 ⟨rfl, hR, hg⟩
              have BXa := Lib.hid (BX3.out.kept hg (by simpa using hne2))
              have BRa := Lib.hid (BR3.out.kept hg (by simpa using hneR))
              clear XL3 XO3 YL3 YO3
              have XL4 := BXa.out.look
              have XO4 := BXa.out.open
              have YL4 := BRa.out.look
              have YO4 := BRa.out.open
              have HR4 := Lib.hid (hR.set hne HXB.out HLB.out 4 (.int .u8 ((UInt8.ofNat xs).toNat : Int)))
              have BX4 := Lib.hid ((BXa.out.set 4 (.int .u8 ((UInt8.ofNat xs).toNat : Int))))
              have BR4 := Lib.hid ((BRa.out.kept (grown_setCell _ bx 4 (.int .u8 ((UInt8.ofNat xs).toNat : Int))) (by simpa using hbw)))
              clear hR hg BXa BRa
              go_wp2_with fail
              refine (HM.out _).mono ?_
              rintro r w9 ⟨rfl, rfl⟩
              go_wp2_with fail
              refine HR4.out.end'.mono ?_
              rintro r w9 ⟨rfl, rfl⟩
              simp only
              have XF := BX4.out.look
              have XG := BX4.out.open
              have YF := BR4.out.look
              have YG := BR4.out.open
              have HGF := Lib.hid (grown_trans HGA.out HR4.out.gr)
              by_cases hend : endR y1 l1 = 0
              · rw [hend]
                have HTT := Lib.hid (show T = (⟨k, 0, 0, [], UInt8.ofNat xs, 0, 0, 0⟩, 0) from by rw [HTB.out, if_neg (by simpa using hend)])
                clear hend
                go_wp2_with fail
                refine bodyPost_ret (v := .tuple #[.agg #[.int .u8 (k.toNat : Int), .int .u32 0, .int .u8 0, .slice none 0 0, .int .u8 ((UInt8.ofNat xs).toNat : Int), .int .u8 0, .int .u8 0, .int .i64 0], .int .i64 0]) ?_ rfl ?_
                · simp only [results]
                  go_simp
                · rw [HTT.out]
                  have hs8 := fun W => grow8 W w.heap.size (.int .u8 (k.toNat : Int)) (.int .u32 0) (.int .u8 0) (.slice none 0 0) (.int .u8 ((UInt8.ofNat xs).toNat : Int)) (.int .u8 0) (.int .u8 0) (.int .i64 0)
                  exact ⟨_, _, _, rfl, ⟨rfl, LineList.nil _ _, by simp [maxLen]⟩, grown_new HGF.out (Nat.le_refl _) (hs8 _)⟩
              · obtain ⟨ee, hee⟩ : ∃ ee, endR y1 l1 = ee := ⟨_, rfl⟩
                have HTT := Lib.hid (show T = (zeroQ, ee) from by rw [HTB.out, if_pos hend, hee])
                rw [hee] at hend ⊢
                have h1 : (ee == 0) = false := by simpa using hend
                have h2 : (ee != 0) = true := by simpa using hend
                clear hend hee
                go_wp2_with fail
                refine bodyPost_ret (v := .tuple #[.agg #[.int .u8 0, .int .u32 0, .int .u8 0, .slice none 0 0, .int .u8 0, .int .u8 0, .int .u8 0, .int .i64 0], .int .i64 ee]) ?_ rfl ?_
                · simp only [results]
                  go_simp
                · rw [HTT.out]
                  have hs8 := fun W => grow8 W w.heap.size (.int .u8 0) (.int .u32 0) (.int .u8 0) (.slice none 0 0) (.int .u8 0) (.int .u8 0) (.int .u8 0) (.int .i64 0)
                  exact ⟨none, 0, 0, rfl, ⟨rfl, LineList.nil _ _, by simp [maxLen]⟩, grown_new HGF.out (Nat.le_refl _) (hs8 _)⟩

end Go.Proofs.Ytomnhgcjdnhijaa
