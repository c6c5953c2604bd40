/-
  Segments by their indexes, some of which may be gone.
-/
import Derived.Test.YtkemocbifancfaaTDrop
import Derived.Test.YtkemocbifancfaaTIter
namespace Go.Proofs.Ytkemocbifancfaa
open Go.RowKit
set_option maxRecDepth 100000

def upd (st : Nat → Option Value) (i : Nat) (x : Option Value) : Nat → Option Value := fun j => if j = i then x else st j
theorem upd_same (st : Nat → Option Value) (i : Nat) (x : Option Value) : upd st i x i = x := if_pos rfl
theorem upd_other {st : Nat → Option Value} {i j : Nat} {x : Option Value} (h : j ≠ i) : upd st i x j = st j := if_neg h
theorem upd_twice (st : Nat → Option Value) (i : Nat) (x y : Option Value) : upd (upd st i x) i y = upd st i y := by
  funext j
  unfold upd
  split <;> rfl
theorem upd_self {st : Nat → Option Value} {i : Nat} {x : Option Value} (h : st i = x) : upd st i x = st := by
  funext j
  unfold upd
  split
  · rename_i e; rw [e, h]
  · rfl
/-- the entries of the segments that are there -/
def entsO (f : Nat) (st : Nat → Option Value) (n : Nat) : List (Int × Value) := (List.range n).filterMap fun i => (st i).map fun v => (((f + i : Nat) : Int), v)
theorem entsO_succ (f : Nat) (st : Nat → Option Value) (n : Nat) : entsO f st (n + 1) = entsO f st n ++ ((st n).map fun v => (((f + n : Nat) : Int), v)).toList := by
  unfold entsO
  rw [List.range_succ, List.filterMap_append]
  congr 1
theorem entsO_congr {f : Nat} {st st' : Nat → Option Value} : ∀ {n : Nat}, (∀ i, i < n → st i = st' i) → entsO f st n = entsO f st' n
  | 0, _ => rfl
  | n + 1, h => by rw [entsO_succ, entsO_succ, entsO_congr (fun i hi => h i (by omega)), h n (by omega)]
theorem entsO_pull {f : Nat} {st : Nat → Option Value} {i : Nat} {v : Value} : ∀ {n : Nat}, i < n → st i = some v → (entsO f st n).Perm ((((f + i : Nat) : Int), v) :: entsO f (upd st i none) n)
  | 0, h, _ => absurd h (by omega)
  | n + 1, h, hv => by
    rw [entsO_succ, entsO_succ]
    by_cases e : i = n
    · subst e
      rw [hv, upd_same, entsO_congr (st := upd st i none) (st' := st) (fun j hj => upd_other (by omega))]
      simp only [Option.map_some, Option.toList_some, Option.map_none, Option.toList_none, List.append_nil]
      exact List.perm_append_comm
    · rw [upd_other (fun h => e h.symm)]
      have := entsO_pull (n := n) (f := f) (by omega) hv
      exact this.append_right _
theorem entsO_add {f : Nat} {st : Nat → Option Value} {n i : Nat} {v : Value} (hi : i < n) : ((((f + i : Nat) : Int), v) :: entsO f (upd st i none) n).Perm (entsO f (upd st i (some v)) n) := by
  have := entsO_pull (f := f) (st := upd st i (some v)) hi (upd_same _ _ _)
  rw [upd_twice] at this
  exact this.symm
theorem entsO_mem {f : Nat} {st : Nat → Option Value} {n : Nat} {p : Int × Value} (h : p ∈ entsO f st n) : ∃ i, i < n ∧ st i = some p.2 ∧ p.1 = ((f + i : Nat) : Int) := by
  obtain ⟨i, hi, he⟩ := List.mem_filterMap.1 h
  rw [List.mem_range] at hi
  cases hs : st i with
  | none => rw [hs] at he; cases he
  | some v =>
    rw [hs, Option.map_some, Option.some.injEq] at he
    subst he
    exact ⟨i, hi, hs, rfl⟩
theorem entsO_take (f : Nat) (vs : List Value) : ∀ k, entsO f (fun i => vs[i]?) k = ents f (vs.take k)
  | 0 => rfl
  | k + 1 => by
    rw [entsO_succ, entsO_take f vs k]
    by_cases h : k < vs.length
    · rw [List.take_add_one, List.getElem?_eq_getElem h, Option.toList_some, ents_push, List.length_take, Nat.min_eq_left (by omega)]
      rfl
    · rw [List.getElem?_eq_none (by omega), List.take_of_length_le (by omega), List.take_of_length_le (by omega)]
      simp
theorem entsO_list {f n : Nat} {vs : List Value} {st : Nat → Option Value} (hn : vs.length ≤ n) (h : ∀ i, i < n → st i = vs[i]?) : entsO f st n = ents f vs := by
  rw [entsO_congr h, entsO_take, List.take_of_length_le hn]
/-- the segments that are there, as a list -/
def stList (st : Nat → Option Value) (q : Nat) : List Value := (List.range q).map fun i => (st i).getD (.bool false)
theorem stList_get {st : Nat → Option Value} {q i : Nat} (hi : i < q) {v : Value} (h : st i = some v) : (stList st q)[i]? = some v := by
  unfold stList
  rw [List.getElem?_map, List.getElem?_range hi, Option.map_some, h]
  rfl
theorem stList_len (st : Nat → Option Value) (q : Nat) : (stList st q).length = q := by simp [stList]
theorem ents_mem {f : Nat} {vs : List Value} {k : Int} {v : Value} (h : (k, v) ∈ ents f vs) : ∃ i, i < vs.length ∧ vs[i]? = some v ∧ k = ((f + i : Nat) : Int) := by
  obtain ⟨i, hi⟩ := List.getElem?_of_mem h
  have hlt := (List.getElem?_eq_some_iff.1 hi).1
  rw [ents_len] at hlt
  rw [ents_get, List.getElem?_eq_getElem hlt] at hi
  simp only [Option.map_some, Option.some.injEq, Prod.mk.injEq] at hi
  exact ⟨i, hlt, by rw [List.getElem?_eq_getElem hlt, hi.2], hi.1.symm⟩
theorem OwnB.keptX {X : Nat → Prop} {w w' : World} {B : Nat} {v : Value} {l : List UInt8} (h : OwnB w B v l) (hk : Kept X w w') (hx : ∀ k, v.ownBlock = Option.some k → ¬ X k) : OwnB w' B v l := by
  rcases h.2 with h2 | ⟨g, cap, cur, hv, hb, hg, r⟩
  · exact ⟨h.1, .inl h2⟩
  · have hlt := (Array.getElem?_eq_some_iff.1 hg).1
    refine ⟨h.1, .inr ⟨g, cap, cur, hv, hb, ?_, r⟩⟩
    rw [hk.block g hlt (hx g (by rw [hv]; rfl))]
    exact hg
theorem lt_nSeg {s E i : Nat} (hs : 1 ≤ s) : i < nSeg s E ↔ i * s < E := by
  have h1 := nSeg_spec s E hs
  constructor
  · intro h
    have h2 : (i + 1) * s ≤ nSeg s E * s := Nat.mul_le_mul_right s (by omega)
    rw [Nat.add_mul, Nat.one_mul] at h2
    omega
  · intro h
    have h2 : i * s < nSeg s E * s := by omega
    exact Nat.lt_of_mul_lt_mul_right h2
theorem segOf_take (s : Nat) (l : List UInt8) (E i : Nat) : segOf s (l.take E) i = (segOf s l i).take (E - i * s) := by
  unfold segOf
  rw [List.drop_take, List.take_take, List.take_take, Nat.min_comm]

end Go.Proofs.Ytkemocbifancfaa
