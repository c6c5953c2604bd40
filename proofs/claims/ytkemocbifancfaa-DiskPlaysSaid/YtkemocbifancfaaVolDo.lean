/-
  'Put' of the reference, 'do' and 'few' of the laws of volumes.
-/
import Derived.Test.YtkemocbifancfaaVolRefTear
namespace Go.Proofs.Ytkemocbifancfaa
open Go.RowKit
set_option maxRecDepth 100000

theorem refv_tear_any {w : World} {X : Nat → Prop} {bs : List (List UInt8)} {sz : Nat} {V : Value} (hv : RefVol w X bs sz V) (hX : ∀ k, w.heap.size ≤ k → ¬ X k) (i n : Int) (ba : Option Addr) (len cap : Nat) (b : List UInt8)
    (hb : b.length = len) (hr : RB w ba b) (hm : bs.length ≤ 1024) (hs : sz ≤ 4096) :
    Calls Try.prog 74 #[V, .int .i64 i, .slice ba len cap, .int .i64 n] w (RefTearPost w X sz (refTear sz bs i b n)) := by
  unfold refTear
  by_cases hi : i < 0 ∨ (bs.length : Int) ≤ i
  · rw [if_pos hi]; exact refv_tear_arg hv i n _ hi
  · rw [if_neg hi]
    obtain ⟨j, rfl⟩ : ∃ j : Nat, i = j := ⟨i.toNat, by omega⟩
    have hj : j < bs.length := by omega
    by_cases hl : sz < b.length
    · rw [if_pos hl]; exact refv_tear_long hv j n ba len cap hj (by omega)
    · rw [if_neg hl]
      have := refv_tear_in hv hX j n ba len cap b hj (by omega) hb hr hm hs
      simp only [Int.toNat_natCast]
      rw [List.getD_eq_getElem?_getD, List.getElem?_eq_getElem hj]
      exact this

theorem RVB.weaken {w : World} {X X' : Nat → Prop} {a : Option Addr} {bs : List (List UInt8)} (h : RVB w X a bs) (hX : ∀ k, X' k → X k) : RVB w X' a bs := by
  intro i hi
  obtain ⟨b', o, e, hx, a', n, c, hc, hn, hr⟩ := h i hi
  refine ⟨b', o, e, fun h => hx (hX _ h), a', n, c, hc, hn, fun j hj => ?_⟩
  obtain ⟨b2, o2, e2, hx2, hc2⟩ := hr j hj
  exact ⟨b2, o2, e2, fun h => hx2 (hX _ h), hc2⟩
theorem RefVol.and1 {w : World} {X : Nat → Prop} {bs : List (List UInt8)} {sz : Nat} {V : Value} (h : RefVol w X bs sz V) (b : Nat) (hb : w.heap.size ≤ b) : RefVol w (And1 X b) bs sz V := by
  obtain ⟨a, n, c, e, h1, h2, h3⟩ := h
  exact ⟨a, n, c, e, h1, h2.and1 b hb, h3⟩
theorem RefVol.weaken {w : World} {X X' : Nat → Prop} {bs : List (List UInt8)} {sz : Nat} {V : Value} (h : RefVol w X bs sz V) (hX : ∀ k, X' k → X k) : RefVol w X' bs sz V := by
  obtain ⟨a, n, c, e, h1, h2, h3⟩ := h
  exact ⟨a, n, c, e, h1, h2.weaken hX, h3⟩
theorem RefVol.kept {w w' : World} {X : Nat → Prop} {bs : List (List UInt8)} {sz : Nat} {V : Value} (h : RefVol w X bs sz V) (hk : Kept X w w') : RefVol w' X bs sz V := by
  obtain ⟨a, n, c, e, h1, h2, h3⟩ := h
  exact ⟨a, n, c, e, h1, h2.kept hk, h3⟩

theorem refv_put_any {w : World} {X : Nat → Prop} {bs : List (List UInt8)} {sz : Nat} {V : Value} (hv : RefVol w X bs sz V) (hX : ∀ k, w.heap.size ≤ k → ¬ X k) (i : Int) (ba : Option Addr) (len cap : Nat) (b : List UInt8)
    (hb : b.length = len) (hr : RB w ba b) (hm : bs.length ≤ 1024) (hs : sz ≤ 4096) :
    Calls Try.prog 66 #[V, .int .i64 i, .slice ba len cap] w (RefTearPost w X sz (refTear sz bs i b sz)) := by
  obtain ⟨a, c, rfl⟩ := hv.open
  have hvar := vol_var w a bs.length c sz
  have hbr := Box.new (w.alloc (.cells #[.slice a bs.length c, .int .i64 sz] 48)) 48 [.slice none 0 0, .int .i64 0] (w.heap.size + 1) (by simp)
  have hg0 := grown_trans hvar.2 (World.grownBy_alloc (w.alloc (.cells #[.slice a bs.length c, .int .i64 sz] 48)) (.cells #[.slice none 0 0, .int .i64 0] 48) none)
  have h1 := refv_tear_any ((hv.and1 (w.heap.size + 1) (by omega)).grown hg0) (fun k hk => by have := hg0.size; simp only [World.size_alloc] at hk; rintro (h | h); exact hX k (by omega) h; omega) i sz ba len cap b hb (hr.oldg hg0) hm hs
  generalize bs.length = m at *
  have c0 := hvar.1.cell 0 rfl
  have c1 := hvar.1.cell 1 rfl
  have HC := Lib.hid h1; have HG := Lib.hid hg0; have HBR := Lib.hid hbr
  clear h1 hvar hv hr hb hg0 hbr
  generalize hR : refTear sz bs i b sz = R at *
  go_enter Try.func66, Try.ntmps66
  go_wp2_with fail
  refine HC.out.mono ?_
  rintro e w1 ⟨v, rfl, h2, h3⟩
  obtain ⟨a', c', rfl⟩ := h2.open
  have hbr := HBR.out.grown h3
  have e2 := hbr.cell 0 rfl
  have e3 := hbr.cell 1 rfl
  have e4 := hbr.free 0
  have e5 := hbr.free 1
  have e6 := fun v => (hbr.set 0 v).cell 1 rfl
  have e7 := fun v => (hbr.set 0 v).free 1
  have H2 := Lib.hid h2; have H3 := Lib.hid h3; have BR := Lib.hid hbr
  clear h2 h3 hbr
  generalize R.1.length = m' at *
  go_wp2_with fail
  have BF := (BR.out.set 0 (.slice a' m' c')).set 1 (.int .i64 sz)
  have f0 := BF.cell 0 rfl
  have f1 := BF.cell 1 rfl
  refine bodyPost_ret (v := .tuple #[.agg #[.slice a' m' c', .int .i64 sz], .int .i64 R.2]) ?_ rfl ?_
  · simp only [results]
    go_simp
  · have hset : w1.grownBy ((w1.setCell ⟨w.heap.size + 1, 0, none⟩ (.slice a' m' c')).setCell ⟨w.heap.size + 1, 1, none⟩ (.int .i64 sz)) (some (w.heap.size + 1)) := grown_same (grown_setCell _ _ _ _) (grown_setCell _ _ _ _)
    exact ⟨_, rfl, (H2.out.kept (Kept.of_row hset (.inr rfl))).weaken fun k hk => .inl hk, grown_new (grown_trans HG.out H3.out) (by omega) hset⟩

end Go.Proofs.Ytkemocbifancfaa
