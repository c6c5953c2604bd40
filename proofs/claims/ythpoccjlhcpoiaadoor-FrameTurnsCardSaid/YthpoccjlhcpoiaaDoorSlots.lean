/-
  Rows of slices of bytes (lemmas of memory).
-/
import Derived.Test.YthpoccjlhcpoiaaDoorMemB
namespace Go.Proofs.YthpoccjlhcpoiaaDoor
open Go.RowKit

/-- blocks of bytes, each a slice of its own, from a on; all of it outside X -/
def RVB (w : World) (X : Nat → Prop) (a : Option Addr) (bs : List (List UInt8)) : Prop :=
  ∀ i (h : i < bs.length), ∃ b o, a = some ⟨b, o, none⟩ ∧ ¬ X b ∧ ∃ a' n c, w.cell? ⟨b, o + i, none⟩ = some (.slice a' n c) ∧ bs[i].length = n ∧ RX w X a' bs[i]
theorem RVB.kept {w w' : World} {X : Nat → Prop} {a : Option Addr} {bs : List (List UInt8)} (h : RVB w X a bs) (hk : Kept X w w') : RVB w' X a bs := by
  intro i hi
  obtain ⟨b, o, e, hx, a', n, c, hc, hn, hr⟩ := h i hi
  exact ⟨b, o, e, hx, a', n, c, (World.cell?_of_block (a := ⟨b, o + i, none⟩) (hk.block b (World.block_lt_of_cell? w _ hc) hx)).trans hc, hn, hr.kept hk⟩

/-- values that are slices of bytes, each read outside X -/
def Slots (w : World) (X : Nat → Prop) (xs : List Value) (bs : List (List UInt8)) : Prop :=
  xs.length = bs.length ∧ ∀ i (h : i < bs.length), ∃ a n c, xs[i]? = some (.slice a n c) ∧ bs[i].length = n ∧ RX w X a bs[i]
theorem Slots.nil (w : World) (X : Nat → Prop) : Slots w X [] [] := ⟨rfl, fun i h => absurd h (by simp)⟩
theorem Slots.kept {w w' : World} {X : Nat → Prop} {xs : List Value} {bs : List (List UInt8)} (h : Slots w X xs bs) (hk : Kept X w w') : Slots w' X xs bs :=
  ⟨h.1, fun i hi => by obtain ⟨a, n, c, h1, h2, h3⟩ := h.2 i hi; exact ⟨a, n, c, h1, h2, h3.kept hk⟩⟩
theorem Slots.weaken {w : World} {X X' : Nat → Prop} {xs : List Value} {bs : List (List UInt8)} (h : Slots w X xs bs) (hX : ∀ k, X' k → X k) : Slots w X' xs bs :=
  ⟨h.1, fun i hi => by
    obtain ⟨a, n, c, h1, h2, h3⟩ := h.2 i hi
    exact ⟨a, n, c, h1, h2, fun j hj => by obtain ⟨b, o, e, hx, hc⟩ := h3 j hj; exact ⟨b, o, e, fun hx' => hx (hX b hx'), hc⟩⟩⟩
/-- blocks to come are in no reading -/
theorem Slots.fresh {w : World} {X : Nat → Prop} {xs : List Value} {bs : List (List UInt8)} (h : Slots w X xs bs) : Slots w (fun k => X k ∨ w.heap.size ≤ k) xs bs :=
  ⟨h.1, fun i hi => by
    obtain ⟨a, n, c, h1, h2, h3⟩ := h.2 i hi
    exact ⟨a, n, c, h1, h2, fun j hj => by
      obtain ⟨b, o, e, hx, hc⟩ := h3 j hj
      have := World.block_lt_of_cell? w _ hc
      exact ⟨b, o, e, fun hx' => hx'.elim hx (fun h' => by simp only at this; omega), hc⟩⟩⟩
/-- the set X and the block of a row -/
def Plus (X : Nat → Prop) (v : Value) : Nat → Prop := fun k => X k ∨ v.ownBlock = some k
/-- one more value in a row that is appended to: what was read is read, behind the append -/
theorem Slots.append {w w' : World} {X : Nat → Prop} {v : Value} {xs : List Value} {bs : List (List UInt8)} {g n c : Nat} (h : Slots w (Plus X v) xs bs) (hg : w.grownBy w' v.ownBlock) (hl : v.ownBlock = some g ∨ w.heap.size ≤ g) :
    Slots w' (Plus X (.slice (some ⟨g, 0, none⟩) n c)) xs bs := by
  have hk : Kept (fun k => Plus X v k ∨ w.heap.size ≤ k) w w' := ⟨hg.os, hg.tape, hg.output, hg.size, fun k hk hx => hg.block k hk (fun e => hx (.inl (.inr e.symm)))⟩
  refine (h.fresh.kept hk).weaken fun k hx => ?_
  rcases hx with hx | hx
  · exact .inl (.inl hx)
  · have e : g = k := by simpa [Value.ownBlock] using hx
    subst e
    exact hl.imp (fun e => .inr e) id
theorem Slots.snoc {w : World} {X : Nat → Prop} {xs : List Value} {bs : List (List UInt8)} (h : Slots w X xs bs) {a : Option Addr} {n c : Nat} {b : List UInt8} (hn : b.length = n) (hr : RX w X a b) : Slots w X (xs ++ [.slice a n c]) (bs ++ [b]) := by
  refine ⟨by simp [h.1], fun i hi => ?_⟩
  by_cases hlt : i < bs.length
  · obtain ⟨a', n', c', h1, h2, h3⟩ := h.2 i hlt
    refine ⟨a', n', c', ?_, ?_, ?_⟩
    · rw [List.getElem?_append_left (by rw [h.1]; exact hlt)]; exact h1
    · rw [List.getElem_append_left hlt]; exact h2
    · rw [List.getElem_append_left hlt]; exact h3
  · have hi' : i = bs.length := by rw [List.length_append, List.length_singleton] at hi; omega
    subst hi'
    refine ⟨a, n, c, ?_, ?_, ?_⟩
    · rw [← h.1]; simp
    · simp [hn]
    · simpa using hr
theorem RVB.of_own {w : World} {X : Nat → Prop} {B : Nat} {a : Option Addr} {n c : Nat} {xs : List Value} {bs : List (List UInt8)} (ho : OwnV w B 22 (.slice a n c) xs) (hs : Slots w X xs bs) (hX : ∀ k, B ≤ k → ¬ X k) : RVB w X a bs := by
  intro i hi
  obtain ⟨a', n', c', h1, h2, h3⟩ := hs.2 i hi
  obtain ⟨g, rfl, hB, hc⟩ := ho.cell i (by rw [hs.1]; exact hi)
  refine ⟨g, 0, rfl, hX g hB, a', n', c', ?_, h2, h3⟩
  rw [Nat.zero_add, hc]
  rw [List.getElem?_eq_getElem (by rw [hs.1]; exact hi)] at h1
  exact h1

theorem info_bytes : (Tryd.prog.info? 22).map (fun i => (i.zero, i.size, i.bytes)) = some (some (.slice none 0 0), 1, 24) := by kernel_rfl


end Go.Proofs.YthpoccjlhcpoiaaDoor
