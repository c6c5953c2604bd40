/-
  TapeApart.
-/
import Derived.Test.YtkemocbifancfaaTPlays
namespace Go.Proofs.Ytkemocbifancfaa
open Go.RowKit
set_option maxRecDepth 100000

theorem Near.rx {w w' : World} {X : Nat → Prop} {l0 l : List UInt8} {a0 a : Option Addr} (hn : Near w l0 a0 l a) (hx : RX w X a0 l0) (hX : ∀ k, X k → k < w.heap.size) (hr : RB w' a l) : RX w' X a l :=
  RX.of_rb hr (fun ad e hne hk => by
    rcases hn ad e hne with ⟨h0, ad0, e0, e1⟩ | h2
    · obtain ⟨b0, o0, e2, hnx, _⟩ := hx 0 (List.length_pos_iff.2 h0)
      rw [e0] at e2
      cases e2
      rw [← e1] at hk
      exact hnx hk
    · have := hX _ hk
      omega)
theorem RX.re {w w' : World} {X : Nat → Prop} {a : Option Addr} {l : List UInt8} (h : RX w X a l) (hr : RB w' a l) : RX w' X a l := fun i hi => by
  obtain ⟨b, o, e, hx, _⟩ := h i hi
  obtain ⟨b', o', e', hc⟩ := hr i hi
  rw [e] at e'
  cases e'
  exact ⟨b, o, e, hx, hc⟩
end Go.Proofs.Ytkemocbifancfaa
