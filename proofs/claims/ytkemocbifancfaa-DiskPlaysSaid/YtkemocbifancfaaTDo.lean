/-
  An act, done to a tape and to the document's.
-/
import Derived.Test.YtkemocbifancfaaTSame
namespace Go.Proofs.Ytkemocbifancfaa
open Go.RowKit
set_option maxRecDepth 100000

theorem InB.keptX {X : Nat → Prop} {w w' : World} {a : Option Addr} {n c : Nat} {l : List UInt8} (h : InB w a n c l) (hx : RX w X a l) (hk : Kept X w w') : InB w' a n c l := ⟨h.len_eq, h.cap_le, h.max, h.nil, (hx.kept hk).rb⟩
theorem SlB.keptX {X : Nat → Prop} {w w' : World} {a : Option Addr} {n c : Nat} {l : List UInt8} (h : SlB w a n c l) (hx : RX w X a l) (hk : Kept X w w') : SlB w' a n c l := ⟨(hx.kept hk).rb, h.len, h.cap, h.max, h.shape⟩
theorem SlB.low {w : World} {a : Option Addr} {n c : Nat} {l : List UInt8} (h : SlB w a n c l) {ad : Addr} (e : a = some ad) (hne : l ≠ []) : ad.block < w.heap.size := by
  obtain ⟨b, o, e2, hc⟩ := h.rb 0 (List.length_pos_iff.2 hne)
  rw [e] at e2
  cases e2
  exact World.block_lt_of_cell? w _ hc
def DoPost (w : World) (g M B s f : Nat) (l : List UInt8) (vs : List Value) (F sx : Nat) (lx : List UInt8) (a : Option Addr) (A : TActV) (r : Ending) (w' : World) : Prop :=
  ∃ a2 n2 c2 vs2, r = .returned (.agg #[.slice a2 n2 c2, .int .i64 ((docF F sx lx A.k A.n : Nat) : Int), .int .i64 (sx : Int)]) ∧ TapeIs w' g M B s (actF s f l A.k A.n) (actL s f l A.k A.n A.b) vs2 ∧ RowsOf w.heap.size vs vs2 ∧
    Kept (TX g M vs) w w' ∧ SlB w' a2 n2 c2 (docL F sx lx A.k A.n A.b) ∧ Near w lx a (docL F sx lx A.k A.n A.b) a2 ∧ RX w' (TX g M vs2) a2 (docL F sx lx A.k A.n A.b)
theorem do_fin {w w1 w2 w3 : World} {g M B s f f' F' sx bx : Nat} {l l' lx lx' : List UInt8} {vs vs2 : List Value} {a a2 : Option Addr} {n c n2 c2 : Nat} (h : TapeIs w g M B s f l vs) (hd : SlB w a n c lx) (hdx : RX w (TX g M vs) a lx) (hg1 : w.grownBy w1 none) (hs1 : w1.heap.size = bx + 1) (hbx : w.heap.size ≤ bx)
    (ht : TapeIs w2 g M B s f' l' vs2) (hro : RowsOf w1.heap.size vs vs2) (hk : Kept (TX g M vs) w1 w2) (hs : SlB w3 a2 n2 c2 lx') (hg3 : w2.grownBy w3 none) (hn : Near w2 lx a lx' a2) :
    let w4 := ((w3.setCell ⟨bx, 0, none⟩ (.slice a2 n2 c2)).setCell ⟨bx, 1, none⟩ (.int .i64 (F' : Int))).setCell ⟨bx, 2, none⟩ (.int .i64 (sx : Int))
    TapeIs w4 g M B s f' l' vs2 ∧ RowsOf w.heap.size vs vs2 ∧ Kept (TX g M vs) w w4 ∧ SlB w4 a2 n2 c2 lx' ∧ Near w lx a lx' a2 ∧ RX w4 (TX g M vs2) a2 lx' := by
  intro w4
  have hfar := h.far
  have hz1 := hg1.size
  have hz2 := hk.size
  have hg4 : w3.grownBy w4 (some bx) := grow3 w3 bx _ _ _
  have hk4 : Kept (fun k => k = bx) w3 w4 := Kept.of_row hg4 rfl
  have hs4 : SlB w4 a2 n2 c2 lx' := hs.keptX (X := fun k => k = bx) (RX.of_rb hs.rb (fun ad e hne hb => by
    rcases hn ad e hne with ⟨h0, ad0, e0, e1⟩ | h2
    · have := hd.low e0 h0
      omega
    · omega)) hk4
  refine ⟨(ht.grown hg3).keptX hk4 (fun k hx e => ?_), fun v hv k hk' => ?_, (((Kept.of_grown hg1).trans hk).trans (Kept.of_grown hg3)).rowB hg4 (fun k e => by cases e; exact .inr hbx), hs4, fun ad e hne => ?_, RX.of_rb hs4.rb (fun ad e hne hx => ?_)⟩
  · subst e
    rcases hx with e | e | ⟨v, hv, e⟩
    · have := hfar _ (.inl e); omega
    · have := hfar _ (.inr (.inl e)); omega
    · rcases hro v hv _ e with ⟨u, hu, e2⟩ | h2
      · have := hfar _ (.inr (.inr ⟨u, hu, e2⟩)); omega
      · omega
  · rcases hro v hv k hk' with h2 | h2
    · exact .inl h2
    · exact .inr (by omega)
  · rcases hn ad e hne with h2 | h2
    · exact .inl h2
    · exact .inr (by omega)
  · rcases hn ad e hne with ⟨h0, ad0, e0, e1⟩ | h2
    · have hlo := hd.low e0 h0
      obtain ⟨b0, o0, e2, hnx, _⟩ := hdx 0 (List.length_pos_iff.2 h0)
      rw [e0] at e2
      cases e2
      simp only at e1 hlo
      rw [← e1] at hx
      rcases hx with e3 | e3 | ⟨v, hv, e3⟩
      · exact hnx (.inl e3)
      · exact hnx (.inr (.inl e3))
      · rcases hro v hv _ e3 with ⟨u, hu, e4⟩ | h5
        · exact hnx (.inr (.inr ⟨u, hu, e4⟩))
        · omega
    · have := ht.far _ hx
      omega
theorem Kept.more {X Y : Nat → Prop} {w w' : World} (h : Kept X w w') (hXY : ∀ k, X k → Y k) : Kept Y w w' := ⟨h.os, h.tape, h.output, h.size, fun k hk hy => h.block k hk (fun hx => hy (hXY k hx))⟩
theorem DoPost.mk' {w w1 w2 w3 : World} {g M B s f f' F F' sx bx : Nat} {l l' lx lx' : List UInt8} {vs vs2 : List Value} {a a2 : Option Addr} {n c n2 c2 : Nat} {A : TActV} (h : TapeIs w g M B s f l vs) (hd : SlB w a n c lx) (hdx : RX w (TX g M vs) a lx) (hg1 : w.grownBy w1 none) (hs1 : w1.heap.size = bx + 1) (hbx : w.heap.size ≤ bx)
    (ht : TapeIs w2 g M B s f' l' vs2) (hro : RowsOf w1.heap.size vs vs2) (hk : Kept (TX g M vs) w1 w2) (hs : SlB w3 a2 n2 c2 lx') (hg3 : w2.grownBy w3 none) (hn : Near w2 lx a lx' a2)
    (e1 : actF s f l A.k A.n = f') (e2 : actL s f l A.k A.n A.b = l') (e3 : docF F sx lx A.k A.n = F') (e4 : docL F sx lx A.k A.n A.b = lx') :
    DoPost w g M B s f l vs F sx lx a A (.returned (.agg #[.slice a2 n2 c2, .int .i64 (F' : Int), .int .i64 (sx : Int)])) (((w3.setCell ⟨bx, 0, none⟩ (.slice a2 n2 c2)).setCell ⟨bx, 1, none⟩ (.int .i64 (F' : Int))).setCell ⟨bx, 2, none⟩ (.int .i64 (sx : Int))) := by
  have hf := do_fin (F' := F') (sx := sx) h hd hdx hg1 hs1 hbx ht hro hk hs hg3 hn
  refine ⟨a2, n2, c2, vs2, by rw [e3], ?_⟩
  rw [e1, e2, e4]
  exact hf
end Go.Proofs.Ytkemocbifancfaa
