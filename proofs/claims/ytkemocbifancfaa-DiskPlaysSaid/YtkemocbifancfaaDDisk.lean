/-
  A disk in memory.
-/
import Derived.Test.YtkemocbifancfaaDFace
namespace Go.Proofs.Ytkemocbifancfaa
open Go.RowKit
set_option maxRecDepth 100000

/-- where a slice of bytes lies -/
abbrev Loc := Option Addr × Nat × Nat
def wCells (W : WriteV) (x : Loc) : List Value := [.int .i64 W.k, .int .i64 W.i, .slice x.1 x.2.1 x.2.2, .int .i64 W.n]
/-- the blocks of a disk -/
structure DId where
  d : Nat
  p : Nat
  i : FId
  j : FId
  tv : Value
  loc : List Loc
def DY (D : DId) (k : Nat) : Prop := k = D.d ∨ k = D.p ∨ FX D.i k ∨ FX D.j k ∨ D.tv.ownBlock = some k
/-- the blocks of the pending bytes -/
def LX (D : DId) (k : Nat) : Prop := ∃ x ∈ D.loc, ∃ ad : Addr, x.1 = some ad ∧ ad.block = k
/-- pending bytes where they lie, outside X -/
structure LocAt (w : World) (X : Nat → Prop) (x : Loc) (W : WriteV) : Prop where
  inb : InB w x.1 x.2.1 x.2.2 W.b
  rx : RX w X x.1 W.b
  n : -9223372036854775808 ≤ W.n
theorem LocAt.keptX {X Y : Nat → Prop} {w w' : World} {x : Loc} {W : WriteV} (h : LocAt w X x W) (hk : Kept X w w') (hY : ∀ k, Y k → X k ∨ w.heap.size ≤ k) : LocAt w' Y x W := by
  refine ⟨h.inb.keptX h.rx hk, ?_, h.n⟩
  intro q hq
  obtain ⟨b, o, e, hx, hc⟩ := (h.rx.kept hk) q hq
  refine ⟨b, o, e, fun hy => ?_, hc⟩
  rcases hY b hy with h1 | h1
  · exact hx h1
  · obtain ⟨b', o', e', _, hc'⟩ := h.rx q hq
    rw [e] at e'
    cases e'
    have := World.block_lt_of_cell? w _ hc'
    simp only at this
    omega
def todoCells (T : List WriteV) (xs : List Loc) : List (List Value) := List.zipWith wCells T xs
structure DiskAt (w : World) (D : DId) (nb sz N s most : Nat) (S : FaceV) (T : List WriteV) : Prop where
  box : Box w D.d 71 [.pointer (some ⟨D.p, 0, none⟩), .pointer (some ⟨D.j.gv, 0, none⟩), .pointer (some ⟨D.j.gt, 0, none⟩), D.tv, .int .i64 (most : Int)]
  now : Box w D.p 68 [.pointer (some ⟨D.i.gv, 0, none⟩), .pointer (some ⟨D.i.gt, 0, none⟩)]
  fi : FaceAt w D.i nb sz N s (seenV nb sz s S T)
  fj : FaceAt w D.j nb sz N s S
  todo : OwnR w 0 74 4 D.tv (todoCells T D.loc)
  lens : D.loc.length = T.length
  locs : ∀ q (h : q < T.length) (h' : q < D.loc.length), LocAt w (DY D) D.loc[q] T[q]
  sep : D.d ≠ D.p ∧ ¬ FX D.i D.d ∧ ¬ FX D.i D.p ∧ ¬ FX D.j D.d ∧ ¬ FX D.j D.p
  apart : ∀ k, FX D.i k → ¬ FX D.j k
  row : ∀ k, D.tv.ownBlock = some k → k ≠ D.d ∧ k ≠ D.p ∧ ¬ FX D.i k ∧ ¬ FX D.j k
  lows : ∀ k, LX D k → k < w.heap.size
  own : ∀ k, LX D k → ¬ DY D k
theorem DiskAt.low {w : World} {D : DId} {nb sz N s most : Nat} {S : FaceV} {T : List WriteV} (h : DiskAt w D nb sz N s most S T) : ∀ k, DY D k → k < w.heap.size := by
  intro k hk
  rcases hk with rfl | rfl | hk | hk | hk
  · exact h.box.lt
  · exact h.now.lt
  · exact h.fi.low k hk
  · exact h.fj.low k hk
  · exact (h.todo.lt k hk).2
theorem OwnR.keptX {X : Nat → Prop} {w w' : World} {B : Nat} {T : TypeId} {k : Nat} {v : Value} {L : List (List Value)} (h : OwnR w B T k v L) (hk : Kept X w w') (hX : ∀ q, v.ownBlock = Option.some q → ¬ X q) : OwnR w' B T k v L := by
  refine ⟨h.1, h.2.1, ?_⟩
  rcases h.2.2 with h2 | ⟨g, cap, cur, hv, hb, hg, r⟩
  · exact .inl h2
  · have hlt := (Array.getElem?_eq_some_iff.1 hg).1
    refine .inr ⟨g, cap, cur, hv, hb, ?_, r⟩
    rw [hk.block g hlt (hX g (by rw [hv]; rfl))]
    exact hg
/-- a disk stays where other blocks alone are written -/
theorem DiskAt.keptX {X : Nat → Prop} {w w' : World} {D : DId} {nb sz N s most : Nat} {S : FaceV} {T : List WriteV} (h : DiskAt w D nb sz N s most S T) (hk : Kept X w w') (hX : ∀ k, DY D k → ¬ X k) (hl : ∀ k, LX D k → ¬ X k) : DiskAt w' D nb sz N s most S T := by
  refine ⟨h.box.keptX hk (hX _ (.inl rfl)), h.now.keptX hk (hX _ (.inr (.inl rfl))), h.fi.keptX hk (fun k e => hX k (.inr (.inr (.inl e)))), h.fj.keptX hk (fun k e => hX k (.inr (.inr (.inr (.inl e))))), h.todo.keptX hk (fun k e => hX k (.inr (.inr (.inr (.inr e))))), h.lens, fun q h1 h2 => ?_, h.sep, h.apart, h.row, fun k hk' => Nat.lt_of_lt_of_le (h.lows k hk') hk.size, h.own⟩
  have l := h.locs q h1 h2
  have l2 : RX w X (D.loc[q]).1 (T[q]).b := RX.of_rb l.inb.reads (fun ad e _ => hl _ ⟨_, List.getElem_mem h2, ad, e, rfl⟩)
  refine ⟨l.inb.keptX l2 hk, ?_, l.n⟩
  intro z hz
  obtain ⟨b, o, e, hx, hc⟩ := (l2.kept hk) z hz
  obtain ⟨b', o', e', hx', _⟩ := l.rx z hz
  rw [e] at e'
  cases e'
  exact ⟨b, o, e, hx', hc⟩
theorem DiskAt.grown {w w' : World} {D : DId} {nb sz N s most : Nat} {S : FaceV} {T : List WriteV} (h : DiskAt w D nb sz N s most S T) (hg : w.grownBy w' none) : DiskAt w' D nb sz N s most S T :=
  h.keptX (X := fun _ => False) (Kept.of_grown hg) (fun _ _ h => h) (fun _ _ h => h)

end Go.Proofs.Ytkemocbifancfaa
