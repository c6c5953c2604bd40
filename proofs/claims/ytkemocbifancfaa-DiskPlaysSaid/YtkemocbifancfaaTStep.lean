/-
  What comes behind a tape's end, in memory.
-/
import Derived.Test.YtkemocbifancfaaTPure
namespace Go.Proofs.Ytkemocbifancfaa
open Go.RowKit
set_option maxRecDepth 100000

theorem OwnB.some {w : World} {B : Nat} {v : Value} {l : List UInt8} (h : OwnB w B v l) (hne : l ≠ []) : ∃ k, v.ownBlock = some k := by
  rcases h.2 with ⟨hv, h0⟩ | ⟨g, cap, cur, hv, _⟩
  · exact absurd (List.eq_nil_of_length_eq_zero h0) hne
  · exact ⟨g, by rw [hv]; rfl⟩
theorem OwnB.grown {w w' : World} {B : Nat} {v : Value} {l : List UInt8} (h : OwnB w B v l) (hg : w.grownBy w' none) : OwnB w' B v l := h.old (grown_below hg)
/-- the tape's cells when e bytes have come -/
def tapeC (M s f e : Nat) : List Value := [.map (some M), .int .i64 (s : Int), .int .i64 (f : Int), .int .i64 (e : Int)]
/-- a new segment comes -/
theorem TapeIs.push {wr wu wa wb : World} {g M B s f : Nat} {l x : List UInt8} {vs : List Value} {v : Value} (h : TapeIs wr g M B s f l vs) (hfull : l.length % s = 0) (hx : 1 ≤ x.length ∧ x.length ≤ s)
    (hu : wr.grownBy wu none) (hoA : OwnB wa B v x) (hgA : wu.grownBy wa none) (hloc : ∀ k, v.ownBlock = some k → wu.heap.size ≤ k)
    (hmb : MapI wb M (ents f vs ++ [(((f + vs.length : Nat) : Int), v)])) (hgb : wa.grownBy wb (some M)) :
    Box wb g 100 (tapeC M s f (f * s + l.length)) ∧ TapeIs (wb.setCell ⟨g, 3, none⟩ (.int .i64 ((f * s + l.length + x.length : Nat) : Int))) g M B s f (l ++ x) (vs ++ [v]) := by
  obtain ⟨hg1, hM1, hgM⟩ := h.lo
  have hs1 : 1 ≤ s := by have := h.seg.1; omega
  have hwa : wr.grownBy wa none := grown_trans hu hgA
  have hbb : Box wb g 100 (tapeC M s f (f * s + l.length)) := (h.box.grown hwa).kept hgb (by simpa using fun e => hgM e.symm)
  have hvl : vs.length = l.length / s := by rw [h.len, nSeg_full hs1 hfull]
  have hmul : l.length / s * s = l.length := by have := div_parts s l.length; omega
  have hrow : ∀ {u : Value} {y : List UInt8}, OwnB wa B u y → OwnB (wb.setCell ⟨g, 3, none⟩ (.int .i64 ((f * s + l.length + x.length : Nat) : Int))) B u y := fun {u y} ho => by
    refine (ho.kept hgb (.inr fun e => ?_)).kept (grown_setCell wb g 3 _) (.inr fun e => ?_)
    · have := (ho.lt _ e).1; omega
    · have := (ho.lt _ e).1; omega
  refine ⟨hbb, ?_, ?_, ?_, ?_, ?_, h.lo, h.seg⟩
  · have := hbb.set 3 (.int .i64 ((f * s + l.length + x.length : Nat) : Int))
    rw [List.length_append, ← Nat.add_assoc]
    exact this
  · rw [ents_push]
    exact hmb.kept (grown_setCell wb g 3 _) (by simpa using hgM)
  · rw [List.length_append, List.length_append, hvl, List.length_singleton, nSeg_more hs1 hx.1 (by rw [hfull]; omega)]
  · intro i hi
    rw [List.length_append, List.length_singleton] at hi
    by_cases hil : i < vs.length
    · rw [List.getElem_append_left hil]
      have hle : i * s + s ≤ l.length := by
        have : (i + 1) * s ≤ l.length / s * s := Nat.mul_le_mul_right s (by omega)
        rw [Nat.add_mul, Nat.one_mul] at this
        omega
      rw [segOf_keep hle]
      exact hrow ((h.own i hil).grown hwa)
    · obtain rfl : i = vs.length := by omega
      rw [List.getElem_append_right (Nat.le_refl _)]
      simp only [Nat.sub_self, List.getElem_cons_zero]
      rw [segOf_last (by rw [hvl]; omega) (by rw [hvl]; omega), segOf_end (by rw [hvl]; omega), List.nil_append]
      exact hrow hoA
  · obtain ⟨kv, hkv⟩ := hoA.some (by intro e; rw [e] at hx; simp at hx)
    have hfar : ∀ i (hi : i < vs.length), vs[i].ownBlock ≠ some kv := fun i hi e => by
      have h1 := ((h.own i hi).lt _ e).2
      have h2 := hloc kv hkv
      have h3 := hu.size
      omega
    intro i j hi hj hne
    rw [List.length_append, List.length_singleton] at hi hj
    by_cases hil : i < vs.length
    · rw [List.getElem_append_left hil]
      by_cases hjl : j < vs.length
      · rw [List.getElem_append_left hjl]
        exact h.apart i j hil hjl hne
      · obtain rfl : j = vs.length := by omega
        rw [List.getElem_append_right (Nat.le_refl _)]
        simp only [Nat.sub_self, List.getElem_cons_zero, hkv]
        exact hfar i hil
    · obtain rfl : i = vs.length := by omega
      have hjl : j < vs.length := by omega
      rw [List.getElem_append_left hjl, List.getElem_append_right (Nat.le_refl _)]
      simp only [Nat.sub_self, List.getElem_cons_zero, hkv]
      exact fun e => hfar j hjl e.symm
/-- the last segment is filled -/
theorem TapeIs.fill {wr wu wa wb : World} {g M B s f i : Nat} {l x : List UInt8} {vs : List Value} {v : Value} (h : TapeIs wr g M B s f l vs) (hpart : l.length % s ≠ 0) (hi : i = l.length / s) (hiv : i < vs.length) (hx : 1 ≤ x.length ∧ x.length ≤ s - l.length % s)
    (hu : wr.grownBy wu none) (hoA : OwnB wa B v (segOf s l i ++ x)) (hgA : wu.grownBy wa (vs[i]).ownBlock) (hloc : ∀ k, v.ownBlock = some k → (vs[i]).ownBlock = some k ∨ wu.heap.size ≤ k)
    (hmb : MapI wb M ((ents f vs).set i (((f + i : Nat) : Int), v))) (hgb : wa.grownBy wb (some M)) :
    Box wb g 100 (tapeC M s f (f * s + l.length)) ∧ TapeIs (wb.setCell ⟨g, 3, none⟩ (.int .i64 ((f * s + l.length + x.length : Nat) : Int))) g M B s f (l ++ x) (vs.set i v) := by
  obtain ⟨hg1, hM1, hgM⟩ := h.lo
  have hs1 : 1 ≤ s := by have := h.seg.1; omega
  have hlt := (h.own i hiv).lt
  have hbb : Box wb g 100 (tapeC M s f (f * s + l.length)) := ((h.box.grown hu).kept hgA (fun e => by have := (hlt _ e).1; omega)).kept hgb (by simpa using fun e => hgM e.symm)
  have hvl : vs.length = l.length / s + 1 := by rw [h.len, nSeg_part hs1 hpart]
  have hmul := div_parts s l.length
  have hmod := Nat.mod_lt l.length (show s > 0 by omega)
  have hrow : ∀ {u : Value} {y : List UInt8}, OwnB wa B u y → OwnB (wb.setCell ⟨g, 3, none⟩ (.int .i64 ((f * s + l.length + x.length : Nat) : Int))) B u y := fun {u y} ho => by
    refine (ho.kept hgb (.inr fun e => ?_)).kept (grown_setCell wb g 3 _) (.inr fun e => ?_)
    · have := (ho.lt _ e).1; omega
    · have := (ho.lt _ e).1; omega
  refine ⟨hbb, ?_, ?_, ?_, ?_, ?_, h.lo, h.seg⟩
  · have := hbb.set 3 (.int .i64 ((f * s + l.length + x.length : Nat) : Int))
    rw [List.length_append, ← Nat.add_assoc]
    exact this
  · rw [ents_set]
    exact hmb.kept (grown_setCell wb g 3 _) (by simpa using hgM)
  · rw [List.length_set, List.length_append, hvl, nSeg_more hs1 hx.1 hx.2]
  · intro j hj
    rw [List.length_set] at hj
    by_cases hij : i = j
    · subst hij
      rw [List.getElem_set_self, segOf_last (by rw [hi]; omega) (by rw [hi]; omega)]
      exact hrow hoA
    · rw [List.getElem_set_ne hij]
      have hle : j * s + s ≤ l.length := by
        have : (j + 1) * s ≤ l.length / s * s := Nat.mul_le_mul_right s (by omega)
        rw [Nat.add_mul, Nat.one_mul] at this
        omega
      rw [segOf_keep hle]
      exact hrow (((h.own j hj).grown hu).kept hgA (.inr (h.apart j i hj hiv (fun e => hij e.symm))))
  · have hnew : ∀ j (hj : j < vs.length), i ≠ j → vs[j].ownBlock ≠ v.ownBlock := fun j hj hne e => by
      obtain ⟨kv, hkv⟩ := hoA.some (fun e => by have hxe : x = [] := (List.append_eq_nil_iff.1 e).2; rw [hxe] at hx; simp at hx)
      rw [hkv] at e
      rcases hloc kv hkv with h1 | h1
      · exact h.apart j i hj hiv (fun e => hne e.symm) (by rw [e, h1])
      · have h2 := ((h.own j hj).lt _ e).2
        have h3 := hu.size
        omega
    intro p q hp hq hne
    rw [List.length_set] at hp hq
    by_cases h1 : i = p
    · subst h1
      rw [List.getElem_set_self, List.getElem_set_ne hne]
      exact fun e => hnew q hq hne e.symm
    · rw [List.getElem_set_ne h1]
      by_cases h2 : i = q
      · subst h2
        rw [List.getElem_set_self]
        exact hnew p hp h1
      · rw [List.getElem_set_ne h2]
        exact h.apart p q hp hq hne

end Go.Proofs.Ytkemocbifancfaa
