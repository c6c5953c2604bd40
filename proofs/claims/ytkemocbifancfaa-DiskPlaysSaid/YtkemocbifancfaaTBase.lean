/-
  A tape in memory: segments of bytes by their numbers.
-/
import Derived.Test.YtkemocbifancfaaTMap
namespace Go.Proofs.Ytkemocbifancfaa
open Go.RowKit
set_option maxRecDepth 100000

/-- how many segments n bytes take -/
def nSeg (s n : Nat) : Nat := (n + s - 1) / s
/-- the i-th segment of some bytes -/
def segOf (s : Nat) (l : List UInt8) (i : Nat) : List UInt8 := (l.drop (i * s)).take s
/-- the map's entries: segments from number f on -/
def ents (f : Nat) (vs : List Value) : List (Int × Value) := (vs.zipIdx f).map fun p => ((p.2 : Int), p.1)
theorem ents_get (f : Nat) (vs : List Value) (i : Nat) : (ents f vs)[i]? = (vs[i]?).map fun v => (((f + i : Nat) : Int), v) := by
  unfold ents
  rw [List.getElem?_map, List.getElem?_zipIdx]
  cases vs[i]? <;> rfl
theorem ents_len (f : Nat) (vs : List Value) : (ents f vs).length = vs.length := by simp [ents]
theorem ents_key (f : Nat) (vs : List Value) : ∀ p ∈ ents f vs, (f : Int) ≤ p.1 ∧ p.1 < ((f + vs.length : Nat) : Int) := by
  intro p hp
  obtain ⟨i, hi⟩ := List.getElem?_of_mem hp
  have hlt : i < vs.length := by
    have := (List.getElem?_eq_some_iff.1 hi).1
    rwa [ents_len] at this
  rw [ents_get, List.getElem?_eq_getElem hlt] at hi
  cases hi
  simp only
  omega
theorem ents_push (f : Nat) (vs : List Value) (v : Value) : ents f (vs ++ [v]) = ents f vs ++ [(((f + vs.length : Nat) : Int), v)] := by
  unfold ents
  rw [List.zipIdx_append, List.map_append]
  rfl
theorem ents_set (f : Nat) (vs : List Value) (i : Nat) (v : Value) : ents f (vs.set i v) = (ents f vs).set i (((f + i : Nat) : Int), v) := by
  apply List.ext_getElem?
  intro j
  rw [ents_get, List.getElem?_set, List.getElem?_set, ents_len, ents_get]
  by_cases h : i = j
  · subst h
    simp only [if_true]
    split <;> rfl
  · rw [if_neg h, if_neg h]
theorem ents_first (f : Nat) (v : Value) (vs : List Value) : (ents f (v :: vs)).eraseIdx 0 = ents (f + 1) vs := by
  simp [ents]
theorem nSeg_zero (s : Nat) (hs : 1 ≤ s) : nSeg s 0 = 0 := by
  unfold nSeg
  exact Nat.div_eq_of_lt (by omega)
theorem nSeg_spec (s n : Nat) (hs : 1 ≤ s) : n ≤ nSeg s n * s ∧ nSeg s n * s < n + s := by
  unfold nSeg
  have h1 := Nat.div_add_mod (n + s - 1) s
  have h2 := Nat.mod_lt (n + s - 1) (show s > 0 by omega)
  rw [Nat.mul_comm] at h1
  generalize (n + s - 1) / s * s = x at *
  omega
/-- the tape's struct, its map, and the rows of its segments -/
structure TapeIs (w : World) (g M B s f : Nat) (l : List UInt8) (vs : List Value) : Prop where
  box : Box w g 100 [.map (some M), .int .i64 (s : Int), .int .i64 (f : Int), .int .i64 ((f * s + l.length : Nat) : Int)]
  map : MapI w M (ents f vs)
  len : vs.length = nSeg s l.length
  own : ∀ i (h : i < vs.length), OwnB w B vs[i] (segOf s l i)
  apart : ∀ i j (hi : i < vs.length) (hj : j < vs.length), i ≠ j → vs[i].ownBlock ≠ vs[j].ownBlock
  lo : g < B ∧ M < B ∧ g ≠ M
  seg : 64 ≤ s ∧ s ≤ 4096
theorem TapeIs.grown {w w' : World} {g M B s f : Nat} {l : List UInt8} {vs : List Value} (h : TapeIs w g M B s f l vs) (hg : w.grownBy w' none) : TapeIs w' g M B s f l vs :=
  ⟨h.box.grown hg, h.map.grown hg, h.len, fun i hi => (h.own i hi).old (grown_below hg), h.apart, h.lo, h.seg⟩
/-- the tape just made -/
theorem TapeIs.made (w : World) (s : Nat) (hs : 64 ≤ s ∧ s ≤ 4096) :
    TapeIs ((w.alloc (.map #[] 0)).alloc (.cells #[.map (some w.heap.size), .int .i64 (s : Int), .int .i64 0, .int .i64 0] 100)) (w.heap.size + 1) w.heap.size (w.heap.size + 2) s 0 [] [] := by
  refine ⟨?_, (MapI.made w).grown (World.grownBy_alloc _ _ none), ?_, fun i h => absurd h (by simp), fun i j h => absurd h (by simp), by omega, hs⟩
  · have := Box.new (w.alloc (.map #[] 0)) 100 [.map (some w.heap.size), .int .i64 (s : Int), .int .i64 0, .int .i64 0] (w.heap.size + 1) (by simp)
    simpa using this
  · rw [List.length_nil, List.length_nil, nSeg_zero s (by omega)]

end Go.Proofs.Ytkemocbifancfaa
