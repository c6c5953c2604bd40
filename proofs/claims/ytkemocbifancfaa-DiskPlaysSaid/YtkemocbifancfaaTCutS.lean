/-
  A tape whose last bytes go: the state of the loop over its segments.
-/
import Derived.Test.YtkemocbifancfaaTSeg
import Derived.Test.YtkemocbifancfaaTBytes
namespace Go.Proofs.Ytkemocbifancfaa
open Go.RowKit
set_option maxRecDepth 100000

theorem segOf_ne {s : Nat} {l : List UInt8} {i : Nat} (hs : 1 ≤ s) (hi : i < nSeg s l.length) : segOf s l i ≠ [] := by
  have h := (lt_nSeg hs).1 hi
  intro e
  have h2 := congrArg List.length e
  unfold segOf at h2
  rw [List.length_take, List.length_drop, List.length_nil] at h2
  omega
/-- the rows of a tape's segments while some are through: st says what is there, dn which are through -/
structure CutSt (w : World) (g M B s f : Nat) (l : List UInt8) (vs : List Value) (E B2 r : Nat) (st : Nat → Option Value) (dn : Int → Bool) (wr : World) : Prop where
  ne : r ≠ g ∧ r ≠ M ∧ B2 ≠ M ∧ g ≠ M ∧ M < B ∧ g < B ∧ w.heap.size ≤ r
  box : Box wr g 100 (tapeC M s f (f * s + l.length))
  iter : IterI wr B2 r (ents f vs) dn
  map : MapI wr M (entsO f st vs.length)
  todo : ∀ i, i < vs.length → dn ((f + i : Nat) : Int) = false → st i = vs[i]?
  done : ∀ i, i < vs.length → dn ((f + i : Nat) : Int) = true → (st i).isSome = decide (i * s < E)
  own : ∀ i v, i < vs.length → st i = some v → OwnB wr B v (if dn ((f + i : Nat) : Int) = true then segOf s (l.take E) i else segOf s l i) ∧ v.ownBlock ≠ some r
  apart : ∀ i j v u, i < vs.length → j < vs.length → i ≠ j → st i = some v → st j = some u → v.ownBlock ≠ u.ownBlock
  rows : ∀ i v, i < vs.length → st i = some v → ∀ k, v.ownBlock = some k → (∃ u ∈ vs, u.ownBlock = some k) ∨ w.heap.size ≤ k
  kept : Kept (TG g M) w wr
theorem CutSt.start {w w1 w2 : World} {g M B s f : Nat} {l : List UInt8} {vs : List Value} {E B2 r : Nat} (h : TapeIs w g M B s f l vs) (h1 : w.grownBy w1 none) (hB2 : w.heap.size ≤ B2) (hr : w1.heap.size ≤ r) (hi : IterI w2 B2 r (ents f vs) (fun _ => false)) (hg : w1.grownBy w2 none) :
    CutSt w g M B s f l vs E B2 r (fun i => vs[i]?) (fun _ => false) w2 := by
  have h2 := (h.grown h1).grown hg
  have hbl := h.box.lt
  have hml := h.map.lt
  have hs1 := h1.size
  refine ⟨⟨by omega, by omega, by omega, h.lo.2.2, h.lo.2.1, h.lo.1, by omega⟩, h2.box, hi, ?_, fun _ _ _ => rfl, fun _ _ hd => (by cases hd), fun i v hi' hv => ?_, fun i j v u hi' hj hne hv hu => ?_, fun i v hi' hv k hk => ?_, Kept.of_grown (grown_trans h1 hg)⟩
  · rw [entsO_list (vs := vs) (Nat.le_refl _) (fun _ _ => rfl)]
    exact h2.map
  · rw [List.getElem?_eq_getElem hi', Option.some.injEq] at hv
    subst hv
    rw [if_neg (by simp)]
    refine ⟨h2.own i hi', fun e => ?_⟩
    have := ((h.grown h1).own i hi').lt _ e
    omega
  · rw [List.getElem?_eq_getElem hi', Option.some.injEq] at hv
    rw [List.getElem?_eq_getElem hj, Option.some.injEq] at hu
    subst hv hu
    exact h.apart i j hi' hj hne
  · exact .inl ⟨v, List.mem_of_getElem? hv, hk⟩
/-- one more segment is through: it is x now -/
theorem CutSt.step {w wr w' wa wb : World} {g M B s f : Nat} {l : List UInt8} {vs : List Value} {E B2 r : Nat} {st : Nat → Option Value} {dn : Int → Bool} (h : CutSt w g M B s f l vs E B2 r st dn wr) {i : Nat} (hi : i < vs.length)
    (hn : IterI w' B2 r (ents f vs) (fun z => dn z || z == ((f + i : Nat) : Int))) (hg : wr.grownBy w' (some r)) (ha : w'.grownBy wa none) (hb : wa.grownBy wb (some M)) {x : Option Value} (hm : MapI wb M (entsO f (upd st i x) vs.length))
    (hx : x.isSome = decide (i * s < E)) (hxo : ∀ v, x = some v → OwnB wa B v (segOf s (l.take E) i) ∧ v.ownBlock ≠ some r ∧ (∀ j u, j < vs.length → j ≠ i → st j = some u → v.ownBlock ≠ u.ownBlock) ∧ ∀ k, v.ownBlock = some k → (∃ u ∈ vs, u.ownBlock = some k) ∨ w.heap.size ≤ k) :
    CutSt w g M B s f l vs E B2 r (upd st i x) (fun z => dn z || z == ((f + i : Nat) : Int)) wb ∧ wb.rangeLeft B2 r = w'.rangeLeft B2 r := by
  obtain ⟨e1, e2, e3, e4, e5, e6, e7⟩ := h.ne
  have ka := hn.kept ha (by simp) (by simp)
  have kb := ka.1.kept hb (by simpa using fun e => e3 e.symm) (by simpa using fun e => e2 e.symm)
  have hkey : ∀ j, j ≠ i → (((f + j : Nat) : Int) == ((f + i : Nat) : Int)) = false := fun j hj => by rw [beq_eq_false_iff_ne]; omega
  have hkeep : ∀ {v : Value} {y : List UInt8}, OwnB wa B v y → OwnB wb B v y := fun {v y} ho => ho.kept hb (.inr fun e => by have := (ho.lt _ e).1; omega)
  refine ⟨⟨h.ne, ((h.box.kept hg (by simpa using e1)).grown ha).kept hb (by simpa using fun e => e4 e.symm), kb.1, hm, ?_, ?_, ?_, ?_, ?_, ?_⟩, kb.2.trans ka.2⟩
  · intro j hj hd
    by_cases hji : j = i
    · subst hji; simp at hd
    · rw [upd_other hji]
      rw [hkey j hji, Bool.or_false] at hd
      exact h.todo j hj hd
  · intro j hj hd
    by_cases hji : j = i
    · subst hji; rw [upd_same]; exact hx
    · rw [upd_other hji]
      rw [hkey j hji, Bool.or_false] at hd
      exact h.done j hj hd
  · intro j v hj hv
    by_cases hji : j = i
    · subst hji
      rw [upd_same] at hv
      rw [if_pos (by simp)]
      exact ⟨hkeep (hxo v hv).1, (hxo v hv).2.1⟩
    · rw [upd_other hji] at hv
      rw [hkey j hji, Bool.or_false]
      have ho := h.own j v hj hv
      exact ⟨hkeep ((ho.1.kept hg (.inr ho.2)).grown ha), ho.2⟩
  · intro j k v u hj hk hne hv hu
    by_cases hji : j = i
    · subst hji
      rw [upd_same] at hv
      rw [upd_other (fun e => hne e.symm)] at hu
      exact (hxo v hv).2.2.1 k u hk (fun e => hne e.symm) hu
    · rw [upd_other hji] at hv
      by_cases hki : k = i
      · subst hki
        rw [upd_same] at hu
        exact fun e => (hxo u hu).2.2.1 j v hj hji hv e.symm
      · rw [upd_other hki] at hu
        exact h.apart j k v u hj hk hne hv hu
  · intro j v hj hv
    by_cases hji : j = i
    · subst hji
      rw [upd_same] at hv
      exact (hxo v hv).2.2.2
    · rw [upd_other hji] at hv
      exact h.rows j v hj hv
  · exact ((h.kept.rowB hg (fun k e => by cases e; exact .inr e7)).rowB ha (fun k e => by cases e)).rowB hb (fun k e => by cases e; exact .inl (.inr rfl))
/-- all segments are through -/
theorem CutSt.last {w wr : World} {g M B s f : Nat} {l : List UInt8} {vs : List Value} {E B2 r : Nat} {st : Nat → Option Value} {dn : Int → Bool} (h : CutSt w g M B s f l vs E B2 r st dn wr) (hall : ∀ p ∈ ents f vs, dn p.1 = true) (hE : E ≤ l.length) (hs : 64 ≤ s ∧ s ≤ 4096) (hlen : vs.length = nSeg s l.length) :
    ∃ vs', TapeIs (wr.setCell ⟨g, 3, none⟩ (.int .i64 ((f * s + E : Nat) : Int))) g M B s f (l.take E) vs' ∧ RowsOf w.heap.size vs vs' ∧ Kept (TG g M) w (wr.setCell ⟨g, 3, none⟩ (.int .i64 ((f * s + E : Nat) : Int))) := by
  obtain ⟨e1, e2, e3, e4, e5, e6, e7⟩ := h.ne
  have hd : ∀ i, i < vs.length → dn ((f + i : Nat) : Int) = true := fun i hi => by
    have hm : (((f + i : Nat) : Int), vs[i]) ∈ ents f vs := List.mem_of_getElem? (i := i) (by rw [ents_get, List.getElem?_eq_getElem hi]; rfl)
    exact hall _ hm
  have hq : nSeg s E ≤ vs.length := by
    rw [hlen]
    unfold nSeg
    exact Nat.div_le_div_right (by omega)
  have hsome : ∀ i, i < nSeg s E → ∃ v, st i = some v := fun i hi => by
    have := h.done i (by omega) (hd i (by omega))
    rw [decide_eq_true ((lt_nSeg (by omega)).1 hi)] at this
    exact Option.isSome_iff_exists.1 this
  have hnone : ∀ i, i < vs.length → ¬ i < nSeg s E → st i = none := fun i hi hn => by
    have := h.done i hi (hd i hi)
    rw [decide_eq_false (fun h => hn ((lt_nSeg (by omega)).2 h))] at this
    simpa using this
  have hget : ∀ i (hi : i < (stList st (nSeg s E)).length), st i = some ((stList st (nSeg s E))[i]) := fun i hi => by
    have hi' := hi
    rw [stList_len] at hi'
    obtain ⟨v, hv⟩ := hsome i hi'
    have h2 := stList_get hi' hv
    rw [List.getElem?_eq_getElem hi, Option.some.injEq] at h2
    rw [hv, h2]
  refine ⟨stList st (nSeg s E), ⟨?_, ?_, ?_, ?_, ?_, ⟨e6, e5, e4⟩, hs⟩, ?_, h.kept.rowB (grown_setCell wr g 3 _) (fun k e => by cases e; exact .inl (.inl rfl))⟩
  · have := h.box.set 3 (.int .i64 ((f * s + E : Nat) : Int))
    rw [List.length_take, Nat.min_eq_left hE]
    exact this
  · rw [← entsO_list (st := st) (n := vs.length) (by rw [stList_len]; exact hq) (fun i hi => ?_)]
    · exact h.map.kept (grown_setCell wr g 3 _) (by simpa using e4)
    · by_cases hi2 : i < nSeg s E
      · obtain ⟨v, hv⟩ := hsome i hi2
        rw [hv, stList_get hi2 hv]
      · rw [hnone i hi hi2, List.getElem?_eq_none (by rw [stList_len]; omega)]
  · rw [stList_len, List.length_take, Nat.min_eq_left hE]
  · intro i hi
    have hi' := hi
    rw [stList_len] at hi'
    have ho := (h.own i _ (by omega) (hget i hi)).1
    rw [if_pos (hd i (by omega))] at ho
    exact ho.kept (grown_setCell wr g 3 _) (.inr fun e => by have := (ho.lt _ e).1; omega)
  · intro i j hi hj hne
    have hi' := hi; have hj' := hj
    rw [stList_len] at hi' hj'
    exact h.apart i j _ _ (by omega) (by omega) hne (hget i hi) (hget j hj)
  · intro v hv k hk
    obtain ⟨i, hi⟩ := List.getElem?_of_mem hv
    have hil := (List.getElem?_eq_some_iff.1 hi).1
    have hil' := hil
    rw [stList_len] at hil'
    rw [List.getElem?_eq_getElem hil, Option.some.injEq] at hi
    subst hi
    exact h.rows i _ (by omega) (hget i hil) k hk

end Go.Proofs.Ytkemocbifancfaa
