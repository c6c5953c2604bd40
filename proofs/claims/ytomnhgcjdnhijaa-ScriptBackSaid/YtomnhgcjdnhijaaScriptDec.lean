/-
  Events are decoded.
-/
import Derived.Test.YtomnhgcjdnhijaaScriptEnc
namespace Go.Proofs.Ytomnhgcjdnhijaa
open Go.RowKit
set_option maxRecDepth 100000

/-- an event whose kind was read: the event, what is wrong, what is left -/
def evR (k : UInt8) (r : List UInt8) : EvP × Int × List UInt8 :=
  if k = 1 then (⟨k, 0, 0, 0, (bytesR 0 r 512).1⟩, (bytesR 0 r 512).2)
  else if k = 2 ∨ k = 3 then (⟨k, (numR 0 r 4).1, 0, 0, []⟩, (numR 0 r 4).2)
  else if k = 7 then (⟨k, 0, (numR 0 r 2).1, (numR (numR 0 r 2).2.1 (numR 0 r 2).2.2 2).1, []⟩, (numR (numR 0 r 2).2.1 (numR 0 r 2).2.2 2).2)
  else (⟨k, 0, 0, 0, []⟩, 0, r)
def decF : Nat → List UInt8 → List EvP → List EvP × Int
  | 0, l, acc => if l = [] then (acc, 0) else ([], 8)
  | n + 1, l, acc =>
    match l with
    | [] => ([], 6)
    | k :: r => if k.toNat < 1 ∨ 8 < k.toNat then ([], 8) else if (evR k r).2.1 ≠ 0 then ([], (evR k r).2.1) else decF n (evR k r).2.2 (acc ++ [(evR k r).1])
/-- what 'Decode' says -/
def decE (l : List UInt8) : List EvP × Int :=
  if l.length < 2 then ([], 6) else if 1024 < valN (l.take 2) then ([], 7) else decF (valN (l.take 2)) (l.drop 2) []
def DecEPost (w : World) (t : List EvP × Int) (r : Ending) (w' : World) : Prop :=
  ∃ a n c, r = .returned (.tuple #[.slice a n c, .int .i64 t.2]) ∧ t.1.length = n ∧ EvList w' a t.1 ∧ w.grownBy w' none

theorem numR_cons (k : UInt8) (r : List UInt8) : numR 0 (k :: r) 1 = (k.toNat, 0, r) :=
  (numR_fit (n := 1) (by decide) (by decide) (by simp)).trans (by simp [valN])
theorem endR_ill {e : Int} (he : e ≠ 0) (l : List UInt8) : endR e l = e := by
  unfold endR
  simp [he]

/-- the cells of events, their bytes outside the blocks X -/
def EvIn (w : World) (X : Nat → Prop) (Ls : List (List Value)) (L : List EvP) : Prop := ∀ i (h : i < L.length), ∃ q n c, Ls[i]? = some (evCells L[i] q n c) ∧ L[i].b.length = n ∧ RX w X q L[i].b
theorem EvIn.alloc {w : World} {X : Nat → Prop} {Ls : List (List Value)} {L : List EvP} (h : EvIn w X Ls L) (o : Obj) : EvIn (w.alloc o) X Ls L := fun i hi => by
  obtain ⟨q, n, c, h1, h2, h3⟩ := h i hi
  exact ⟨q, n, c, h1, h2, h3.kept (Kept.of_grown (World.grownBy_alloc _ _ none))⟩
/-- the events that were read: a row of the call's own, their bytes outside the blocks X -/
def EvRow (w : World) (B : Nat) (X : Nat → Prop) (v : Value) (L : List EvP) : Prop :=
  ∃ Ls, OwnR w B 52 5 v Ls ∧ Ls.length = L.length ∧ EvIn w X Ls L
theorem EvRow.nil (w : World) (B : Nat) (X : Nat → Prop) : EvRow w B X (.slice none 0 0) [] := ⟨[], OwnR.nil _ _ _ _, rfl, fun i h => absurd h (by simp)⟩
theorem EvRow.lt {w : World} {B : Nat} {X : Nat → Prop} {v : Value} {L : List EvP} (h : EvRow w B X v L) : ∀ q, v.ownBlock = some q → B ≤ q ∧ q < w.heap.size := by
  obtain ⟨Ls, h, _⟩ := h
  exact h.lt
theorem EvRow.kept {w w' : World} {B : Nat} {X : Nat → Prop} {v : Value} {L : List EvP} {q : Nat} (h : EvRow w B X v L) (hg : w.grownBy w' (some q)) (hq : q < B) (hX : X q) : EvRow w' B X v L := by
  obtain ⟨Ls, ho, hl, ha⟩ := h
  refine ⟨Ls, ho.kept hg (.inr (fun e => by have := (ho.lt q e).1; omega)), hl, fun i hi => ?_⟩
  obtain ⟨q', n, c, h1, h2, h3⟩ := ha i hi
  exact ⟨q', n, c, h1, h2, h3.kept (Kept.of_row hg hX)⟩
theorem EvRow.keptN {w w' : World} {B : Nat} {X : Nat → Prop} {v : Value} {L : List EvP} {q : Nat} (h : EvRow w B X v L) (hg : w.grownBy w' (some q)) (hq : v.ownBlock ≠ some q) (hX : X q) : EvRow w' B X v L := by
  obtain ⟨Ls, ho, hl, ha⟩ := h
  refine ⟨Ls, ho.kept hg (.inr hq), hl, fun i hi => ?_⟩
  obtain ⟨q', n, c, h1, h2, h3⟩ := ha i hi
  exact ⟨q', n, c, h1, h2, h3.kept (Kept.of_row hg hX)⟩
theorem EvRow.grown {w w' : World} {B : Nat} {X : Nat → Prop} {v : Value} {L : List EvP} (h : EvRow w B X v L) (hg : w.grownBy w' none) : EvRow w' B X v L := by
  obtain ⟨Ls, ho, hl, ha⟩ := h
  refine ⟨Ls, ho.grown hg, hl, fun i hi => ?_⟩
  obtain ⟨q', n, c, h1, h2, h3⟩ := ha i hi
  exact ⟨q', n, c, h1, h2, h3.kept (Kept.of_grown hg)⟩
theorem EvRow.list {w : World} {B : Nat} {X : Nat → Prop} {a : Option Addr} {n c : Nat} {L : List EvP} (h : EvRow w B X (.slice a n c) L) : EvList w a L ∧ L.length = n := by
  obtain ⟨Ls, ho, hl, ha⟩ := h
  refine ⟨fun i hi => ?_, ?_⟩
  · obtain ⟨b, o, e, hc⟩ := ho.elems i (by omega)
    obtain ⟨q, n', c', h1, h2, h3⟩ := ha i hi
    rw [List.getElem?_eq_getElem (by omega)] at h1
    have h1 := Option.some.inj h1
    rw [h1] at hc
    refine ⟨b, o, q, n', c', e, ?_, ?_, ?_, ?_, ?_, ⟨h2, h3.rb⟩⟩
    · exact hc 0 (by omega)
    · exact hc 1 (by omega)
    · exact hc 2 (by omega)
    · exact hc 3 (by omega)
    · exact hc 4 (by omega)
  · obtain ⟨_, _, e⟩ := ho.len
    cases e
    exact hl.symm
theorem decF_cons (n : Nat) (k : UInt8) (r : List UInt8) (acc : List EvP) : decF (n + 1) (k :: r) acc = if k.toNat < 1 ∨ 8 < k.toNat then ([], 8) else if (evR k r).2.1 ≠ 0 then ([], (evR k r).2.1) else decF n (evR k r).2.2 (acc ++ [(evR k r).1]) := rfl
theorem ev_one (e : EvP) (q : Option Addr) (n c : Nat) : ∀ u ∈ evCells e q n c, u.oneCell' = true := by
  intro u hu
  simp only [evCells, List.mem_cons, List.not_mem_nil, or_false] at hu
  rcases hu with rfl | rfl | rfl | rfl | rfl <;> rfl
theorem EvRow.snoc (e : EvP) (q : Option Addr) (n c : Nat) {w w' : World} {B : Nat} {X : Nat → Prop} {v v' : Value} {L : List EvP} {Ls : List (List Value)} (h1 : OwnR w B 52 5 v Ls) (hl : Ls.length = L.length)
    (ha : EvIn w X Ls L) (hq : RX w X q e.b) (hn : e.b.length = n) (hX : ∀ k, B ≤ k → X k) (hg : w.grownBy w' v.ownBlock)
    (ho : OwnR w' B 52 5 v' (Ls ++ [evCells e q n c])) : EvRow w' B X v' (L ++ [e]) := by
  have hk : Kept X w w' := ⟨hg.os, hg.tape, hg.output, hg.size, fun k hk hx => hg.block k hk (fun e => hx (hX k (h1.lt k e.symm).1))⟩
  refine ⟨Ls ++ [evCells e q n c], ho, by simp [hl], fun i hi => ?_⟩
  by_cases hlt : i < L.length
  · obtain ⟨q', n', c', g1, g2, g3⟩ := ha i hlt
    rw [List.getElem_append_left hlt, List.getElem?_append_left (by omega)]
    exact ⟨q', n', c', g1, g2, g3.kept hk⟩
  · have hi' : i = L.length := by rw [List.length_append, List.length_singleton] at hi; omega
    subst hi'
    rw [List.getElem_append_right (Nat.le_refl _), List.getElem?_append_right (by omega)]
    simp only [Nat.sub_self, List.getElem_singleton]
    exact ⟨q, n, c, by rw [hl]; simp, hn, hq.kept hk⟩

end Go.Proofs.Ytomnhgcjdnhijaa
