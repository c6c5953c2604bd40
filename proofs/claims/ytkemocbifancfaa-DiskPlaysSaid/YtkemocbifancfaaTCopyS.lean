/-
  A copy of a tape: the state of the loop over its segments.
-/
import Derived.Test.YtkemocbifancfaaTCutS
namespace Go.Proofs.Ytkemocbifancfaa
open Go.RowKit
set_option maxRecDepth 100000

/-- a copy's rows while some segments are through -/
structure CpSt (w : World) (g2 M2 M B2 s f : Nat) (l : List UInt8) (vs : List Value) (r : Nat) (st : Nat → Option Value) (dn : Int → Bool) (wr : World) : Prop where
  ne : r ≠ g2 ∧ r ≠ M2 ∧ M ≠ M2 ∧ g2 ≠ M2 ∧ M2 < B2 ∧ g2 < B2 ∧ r < B2 ∧ w.heap.size ≤ r ∧ w.heap.size ≤ M2 ∧ w.heap.size ≤ g2
  size : B2 ≤ wr.heap.size
  box : Box wr g2 100 (tapeC M2 s f (f * s + l.length))
  iter : IterI wr M r (ents f vs) dn
  map : MapI wr M2 (entsO f st vs.length)
  there : ∀ i, i < vs.length → (st i).isSome = dn ((f + i : Nat) : Int)
  own : ∀ i v, i < vs.length → st i = some v → OwnB wr B2 v (segOf s l i)
  apart : ∀ i j v u, i < vs.length → j < vs.length → i ≠ j → st i = some v → st j = some u → v.ownBlock ≠ u.ownBlock
  grown : w.grownBy wr none
theorem entsO_none (f n : Nat) : entsO f (fun _ => none) n = [] := by
  induction n with
  | zero => rfl
  | succ n ih => rw [entsO_succ, ih]; rfl
theorem CpSt.free {w wr : World} {g2 M2 M B2 s f : Nat} {l : List UInt8} {vs : List Value} {r : Nat} {st : Nat → Option Value} {dn : Int → Bool} (h : CpSt w g2 M2 M B2 s f l vs r st dn wr) {i : Nat} (hi : i < vs.length) (hd : dn ((f + i : Nat) : Int) = false) :
    ∀ p ∈ entsO f st vs.length, p.1 ≠ ((f + i : Nat) : Int) := by
  intro p hp e
  obtain ⟨j, hj, hs, hk⟩ := entsO_mem hp
  have hji : j = i := by omega
  subst hji
  have := h.there j hj
  rw [hs, hd] at this
  cases this
theorem CpSt.push {f n i : Nat} {st : Nat → Option Value} {v : Value} (hi : i < n) (hs : st i = none) : (entsO f st n ++ [(((f + i : Nat) : Int), v)]).Perm (entsO f (upd st i (some v)) n) := by
  have h := entsO_add (f := f) (st := st) (v := v) hi
  rw [upd_self hs] at h
  exact List.perm_append_comm.trans h
/-- one more segment is copied -/
theorem CpSt.step {w wr w' wa wb : World} {g2 M2 M B2 s f : Nat} {l : List UInt8} {vs : List Value} {r : Nat} {st : Nat → Option Value} {dn : Int → Bool} (h : CpSt w g2 M2 M B2 s f l vs r st dn wr) {i : Nat} (hi : i < vs.length)
    (hn : IterI w' M r (ents f vs) (fun z => dn z || z == ((f + i : Nat) : Int))) (hg : wr.grownBy w' (some r)) (ha : w'.grownBy wa none) (hb : wa.grownBy wb (some M2)) {v : Value} (hm : MapI wb M2 (entsO f (upd st i (some v)) vs.length))
    (ho : OwnB wa w'.heap.size v (segOf s l i)) (hne : segOf s l i ≠ []) :
    CpSt w g2 M2 M B2 s f l vs r (upd st i (some v)) (fun z => dn z || z == ((f + i : Nat) : Int)) wb ∧ wb.rangeLeft M r = w'.rangeLeft M r := by
  obtain ⟨e1, e2, e3, e4, e5, e6, e7, e8, e9, e10⟩ := h.ne
  have hsz := h.size
  have hs1 := hg.size
  have hs2 := ha.size
  have hs3 := hb.size
  have ka := hn.kept ha (by simp) (by simp)
  have kb := ka.1.kept hb (by simpa using fun e => e3 e.symm) (by simpa using fun e => e2 e.symm)
  have hkey : ∀ j, j ≠ i → (((f + j : Nat) : Int) == ((f + i : Nat) : Int)) = false := fun j hj => by rw [beq_eq_false_iff_ne]; omega
  obtain ⟨kv, hkv⟩ := ho.some hne
  have hkl := (ho.lt kv hkv).1
  refine ⟨⟨h.ne, by omega, ((h.box.kept hg (by simpa using e1)).grown ha).kept hb (by simpa using fun e => e4 e.symm), kb.1, hm, ?_, ?_, ?_, ?_⟩, kb.2.trans ka.2⟩
  · intro j hj
    by_cases hji : j = i
    · subst hji; rw [upd_same]; simp
    · rw [upd_other hji, hkey j hji, Bool.or_false]
      exact h.there j hj
  · intro j u hj hu
    by_cases hji : j = i
    · subst hji
      rw [upd_same, Option.some.injEq] at hu
      subst hu
      have h1 : OwnB wa B2 v (segOf s l j) := Joins.ownsRow_le ho (by omega)
      exact h1.kept hb (.inr fun e => by have := (h1.lt _ e).1; omega)
    · rw [upd_other hji] at hu
      have h1 := h.own j u hj hu
      have h2 := (h1.kept hg (.inr fun e => by have := (h1.lt _ e).1; omega)).grown ha
      exact h2.kept hb (.inr fun e => by have := (h2.lt _ e).1; omega)
  · intro j k u x hj hk hne' hu hx
    by_cases hji : j = i
    · subst hji
      rw [upd_same, Option.some.injEq] at hu
      subst hu
      rw [upd_other (fun e => hne' e.symm)] at hx
      rw [hkv]
      intro e
      have := ((h.own k x hk hx).lt kv e.symm).2
      omega
    · rw [upd_other hji] at hu
      by_cases hki : k = i
      · subst hki
        rw [upd_same, Option.some.injEq] at hx
        subst hx
        rw [hkv]
        intro e
        have := ((h.own j u hj hu).lt kv e).2
        omega
      · rw [upd_other hki] at hx
        exact h.apart j k u x hj hk hne' hu hx
  · exact grown_new (grown_trans (grown_new h.grown e8 hg) ha) (by omega) hb
/-- all segments are copied -/
theorem CpSt.last {w wr : World} {g2 M2 M B2 s f : Nat} {l : List UInt8} {vs : List Value} {r : Nat} {st : Nat → Option Value} {dn : Int → Bool} (h : CpSt w g2 M2 M B2 s f l vs r st dn wr) (hall : ∀ p ∈ ents f vs, dn p.1 = true) (hs : 64 ≤ s ∧ s ≤ 4096) (hlen : vs.length = nSeg s l.length) :
    ∃ vs', TapeIs wr g2 M2 B2 s f l vs' ∧ RowsOf w.heap.size [] vs' := by
  obtain ⟨e1, e2, e3, e4, e5, e6, e7, e8, e9, e10⟩ := h.ne
  have hsome : ∀ i, i < vs.length → ∃ v, st i = some v := fun i hi => by
    have hm : (((f + i : Nat) : Int), vs[i]) ∈ ents f vs := List.mem_of_getElem? (i := i) (by rw [ents_get, List.getElem?_eq_getElem hi]; rfl)
    have := h.there i hi
    rw [hall _ hm] at this
    exact Option.isSome_iff_exists.1 this
  have hget : ∀ i (hi : i < (stList st vs.length).length), st i = some ((stList st vs.length)[i]) := fun i hi => by
    have hi' := hi
    rw [stList_len] at hi'
    obtain ⟨v, hv⟩ := hsome i hi'
    have h2 := stList_get hi' hv
    rw [List.getElem?_eq_getElem hi, Option.some.injEq] at h2
    rw [hv, h2]
  refine ⟨stList st vs.length, ⟨h.box, ?_, ?_, ?_, ?_, ⟨e6, e5, e4⟩, hs⟩, ?_⟩
  · rw [← entsO_list (st := st) (n := vs.length) (by rw [stList_len]; exact Nat.le_refl _) (fun i hi => ?_)]
    · exact h.map
    · obtain ⟨v, hv⟩ := hsome i hi
      rw [hv, stList_get hi hv]
  · rw [stList_len, hlen]
  · intro i hi
    have hi' := hi
    rw [stList_len] at hi'
    exact h.own i _ hi' (hget i hi)
  · intro i j hi hj hne
    have hi' := hi; have hj' := hj
    rw [stList_len] at hi' hj'
    exact h.apart i j _ _ hi' hj' hne (hget i hi) (hget j hj)
  · intro v hv k hk
    obtain ⟨i, hi⟩ := List.getElem?_of_mem hv
    have hil := (List.getElem?_eq_some_iff.1 hi).1
    have hil' := hil
    rw [stList_len] at hil'
    rw [List.getElem?_eq_getElem hil, Option.some.injEq] at hi
    subst hi
    refine .inr ?_
    have := ((h.own i _ hil' (hget i hil)).lt k hk).1
    omega

end Go.Proofs.Ytkemocbifancfaa
