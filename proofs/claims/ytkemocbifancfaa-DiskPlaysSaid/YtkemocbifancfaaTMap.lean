/-
  Maps from whole numbers to slices of bytes: what each operation does, entry by entry.
-/
import Derived.Test.YtkemocbifancfaaElems
import Derived.MapFrom
import Derived.Maps.OwnSet
namespace Go.Proofs.Ytkemocbifancfaa
open Go.RowKit
open Go.MapKept (IsKey Stamped findNow_spec run_checkKey run_findKey run_keyThatStays stamped_empty stamped_push stamped_erase stamped_modify heap_set)
set_option maxRecDepth 100000

/-- block B is a map that holds just these entries, in this order -/
def MapO (w : World) (B : Nat) (m : List (Int × Value)) : Prop :=
  ∃ es clock, w.heap[B]? = some (.map es clock) ∧ Stamped es clock ∧ es.toList.map (fun e => (e.key, e.val)) = m.map (fun p => (Value.int .i64 p.1, p.2))
/-- the world in which block B is another object -/
def putObj (w : World) (B : Nat) (o : Obj) : World := { w with heap := w.heap.setIfInBounds B o }
theorem grown_putObj (w : World) (B : Nat) (o : Obj) : w.grownBy (putObj w B o) (some B) :=
  ⟨rfl, rfl, rfl, by simp [putObj], fun k _ hne => by
    have h : B ≠ k := fun e => hne (by rw [e])
    simp [putObj, h]⟩
theorem MapO.kept {w w' : World} {B : Nat} {m : List (Int × Value)} {row : Option Nat} (h : MapO w B m) (hg : w.grownBy w' row) (hne : row ≠ some B) : MapO w' B m := by
  obtain ⟨es, clock, hb, r⟩ := h
  have hlt : B < w.heap.size := (Array.getElem?_eq_some_iff.1 hb).1
  exact ⟨es, clock, by rw [hg.block B hlt (fun e => hne e.symm)]; exact hb, r⟩
theorem MapO.grown {w w' : World} {B : Nat} {m : List (Int × Value)} (h : MapO w B m) (hg : w.grownBy w' none) : MapO w' B m := h.kept hg (by simp)
theorem MapO.lt {w : World} {B : Nat} {m : List (Int × Value)} (h : MapO w B m) : B < w.heap.size := by
  obtain ⟨es, clock, hb, _⟩ := h
  exact (Array.getElem?_eq_some_iff.1 hb).1
theorem MapO.drew {w : World} {B : Nat} {m : List (Int × Value)} (h : MapO w B m) : MapO w.drew B m := h
theorem MapO.made (w : World) : MapO (w.alloc (.map #[] 0)) w.heap.size [] := ⟨#[], 0, heap_alloc_new w _, stamped_empty 0, rfl⟩
theorem zero_bytes (w : World) : (zeroValue 23).run Try.prog w = .ok (.slice none 0 0) w := by kernel_rfl
theorem isK (k : Int) : IsKey (.int .i64) (Value.int .i64 k) := rfl
theorem map_keys {es : List MapEntry} {m : List (Int × Value)} (h : es.map (fun e => (e.key, e.val)) = m.map (fun p => (Value.int .i64 p.1, p.2))) : ∀ x ∈ es, IsKey (.int .i64) x.key := by
  intro x hx
  have : (x.key, x.val) ∈ m.map (fun p => (Value.int .i64 p.1, p.2)) := by rw [← h]; exact List.mem_map.2 ⟨x, hx, rfl⟩
  obtain ⟨p, _, hp⟩ := List.mem_map.1 this
  have e : Value.int .i64 p.1 = x.key := congrArg Prod.fst hp
  rw [← e]
  rfl
theorem map_get {es : List MapEntry} {m : List (Int × Value)} (h : es.map (fun e => (e.key, e.val)) = m.map (fun p => (Value.int .i64 p.1, p.2))) {j : Nat} {e : MapEntry} (hj : es[j]? = some e) :
    ∃ p, m[j]? = some p ∧ e.key = .int .i64 p.1 ∧ e.val = p.2 := by
  have h1 : (es.map (fun e => (e.key, e.val)))[j]? = some (e.key, e.val) := by rw [List.getElem?_map, hj]; rfl
  rw [h, List.getElem?_map] at h1
  cases hm : m[j]? with
  | none => rw [hm] at h1; simp at h1
  | some p =>
    rw [hm] at h1
    simp only [Option.map_some, Option.some.injEq, Prod.mk.injEq] at h1
    exact ⟨p, rfl, h1.1.symm, h1.2.symm⟩
theorem map_len {es : List MapEntry} {m : List (Int × Value)} (h : es.map (fun e => (e.key, e.val)) = m.map (fun p => (Value.int .i64 p.1, p.2))) : es.length = m.length := by
  have := congrArg List.length h
  simpa using this
/-- a key is there at one place alone -/
theorem map_one {es : Array MapEntry} {clock : Nat} {m : List (Int × Value)} (hs : Stamped es clock) (h : es.toList.map (fun e => (e.key, e.val)) = m.map (fun p => (Value.int .i64 p.1, p.2))) {i j : Nat} {p q : Int × Value}
    (hi : m[i]? = some p) (hj : m[j]? = some q) (e : p.1 = q.1) : i = j := by
  have hk : es.toList.map (·.key) = m.map (fun p => Value.int .i64 p.1) := by
    have := congrArg (List.map Prod.fst) h
    simpa [List.map_map, Function.comp_def] using this
  have hn := hs.2.2
  rw [hk] at hn
  have hil := (List.getElem?_eq_some_iff.1 hi).1
  have hjl := (List.getElem?_eq_some_iff.1 hj).1
  have h1 : (m.map (fun p => Value.int .i64 p.1))[i]? = (m.map (fun p => Value.int .i64 p.1))[j]? := by rw [List.getElem?_map, List.getElem?_map, hi, hj]; simp [e]
  exact (List.getElem?_inj (by simpa using hil) hn).1 h1
/-- 'm[k]', where the key is there -/
theorem MapO.look {w : World} {B : Nat} {m : List (Int × Value)} (h : MapO w B m) {i : Nat} {k : Int} {v : Value} (hi : m[i]? = some (k, v)) :
    (Instr.lookup 98 (.map (some B)) (.int .i64 k) false).run Try.prog w = .ok v w := by
  obtain ⟨es, clock, hb, hs, hm⟩ := h
  rcases findNow_spec (isK k) es.toList 0 (map_keys hm) with ⟨_, h2⟩ | ⟨j, e, h1, h2, h3⟩
  · exfalso
    have hlt : i < es.toList.length := by rw [map_len hm]; exact (List.getElem?_eq_some_iff.1 hi).1
    obtain ⟨p, hp, hk, _⟩ := map_get hm (List.getElem?_eq_getElem hlt)
    rw [hi] at hp
    cases hp
    exact h2 _ (List.getElem_mem hlt) hk
  · obtain ⟨p, hp, hk, hv⟩ := map_get hm h2
    have hpk : p.1 = k := by rw [hk] at h3; simpa using h3
    have hij := map_one hs hm hp hi hpk
    subst hij
    rw [hp] at hi
    cases hi
    simp [Instr.lookup, run_underlying Try.underlying98, MapKept.run_getObj_map hb, run_checkKey Try.underlying2 (isK k), run_findKey Try.underlying2 h1, Result.andThen, hv]
/-- '.. where it is not' -/
theorem MapO.miss {w : World} {B : Nat} {m : List (Int × Value)} (h : MapO w B m) {k : Int} (hi : ∀ p ∈ m, p.1 ≠ k) :
    (Instr.lookup 98 (.map (some B)) (.int .i64 k) false).run Try.prog w = .ok (.slice none 0 0) w := by
  obtain ⟨es, clock, hb, hs, hm⟩ := h
  rcases findNow_spec (isK k) es.toList 0 (map_keys hm) with ⟨h1, _⟩ | ⟨j, e, h1, h2, h3⟩
  · simp [Instr.lookup, run_underlying Try.underlying98, MapKept.run_getObj_map hb, run_checkKey Try.underlying2 (isK k), run_findKey Try.underlying2 h1, Result.andThen, zero_bytes w]
  · obtain ⟨p, hp, hk, _⟩ := map_get hm h2
    rw [hk] at h3
    exact absurd (by simpa using h3) (hi p (List.mem_of_getElem? hp))
/-- 'm[k] = v', a new key -/
theorem MapO.push {w : World} {B : Nat} {m : List (Int × Value)} (h : MapO w B m) {k : Int} (hi : ∀ p ∈ m, p.1 ≠ k) (v : Value) :
    ∃ w', (Instr.mapUpdate 98 (.map (some B)) (.int .i64 k) v).run Try.prog w = .ok () w' ∧ MapO w' B (m ++ [(k, v)]) ∧ w.grownBy w' (some B) := by
  obtain ⟨es, clock, hb, hs, hm⟩ := h
  rcases findNow_spec (isK k) es.toList 0 (map_keys hm) with ⟨h1, h2⟩ | ⟨j, e, h1, h2, h3⟩
  · refine ⟨putObj w B (.map (es.push ⟨.int .i64 k, v, clock⟩) (clock + 1)), ?_, ⟨_, _, (heap_set hb).1, stamped_push hs h2, ?_⟩, grown_putObj _ _ _⟩
    · simp [Instr.mapUpdate, run_underlying Try.underlying98, MapKept.run_getObj_map hb, run_checkKey Try.underlying2 (isK k), run_findKey Try.underlying2 h1, MapKept.run_setObj_map _ hb, Result.andThen, putObj]
    · rw [Array.toList_push, List.map_append, List.map_append, hm]
      rfl
  · obtain ⟨p, hp, hk, _⟩ := map_get hm h2
    rw [hk] at h3
    exact absurd (by simpa using h3) (hi p (List.mem_of_getElem? hp))
/-- 'm[k] = v', an old key -/
theorem MapO.set {w : World} {B : Nat} {m : List (Int × Value)} (h : MapO w B m) {i : Nat} {k : Int} {u : Value} (hi : m[i]? = some (k, u)) (v : Value) :
    ∃ w', (Instr.mapUpdate 98 (.map (some B)) (.int .i64 k) v).run Try.prog w = .ok () w' ∧ MapO w' B (m.set i (k, v)) ∧ w.grownBy w' (some B) := by
  obtain ⟨es, clock, hb, hs, hm⟩ := h
  rcases findNow_spec (isK k) es.toList 0 (map_keys hm) with ⟨_, h2⟩ | ⟨j, e, h1, h2, h3⟩
  · exfalso
    have hlt : i < es.toList.length := by rw [map_len hm]; exact (List.getElem?_eq_some_iff.1 hi).1
    obtain ⟨p, hp, hk, _⟩ := map_get hm (List.getElem?_eq_getElem hlt)
    rw [hi] at hp
    cases hp
    exact h2 _ (List.getElem_mem hlt) hk
  · obtain ⟨p, hp, hk, _⟩ := map_get hm h2
    have hpk : p.1 = k := by rw [hk] at h3; simpa using h3
    have hij := map_one hs hm hp hi hpk
    subst hij
    have hj : es[j]? = some e := by simpa using h2
    refine ⟨putObj w B (.map (es.modify j fun e => { e with key := .int .i64 k, val := v }) clock), ?_, ⟨_, _, (heap_set hb).1, stamped_modify hs j _ (fun _ _ => rfl) (fun e' _ he => by rw [hj] at he; cases he; exact h3.symm), ?_⟩, grown_putObj _ _ _⟩
    · simp [Instr.mapUpdate, run_underlying Try.underlying98, MapKept.run_getObj_map hb, run_checkKey Try.underlying2 (isK k), run_findKey Try.underlying2 h1, hj, h3, run_keyThatStays (isK k), MapKept.run_setObj_map _ hb, Result.andThen, putObj]
    · rw [Array.toList_modify, List.map_set, ← hm]
      apply List.ext_getElem?
      intro q
      simp only [List.getElem?_map, List.getElem?_set, List.getElem?_modify, List.length_map]
      by_cases hq : j = q
      · subst hq
        have hlt : j < es.toList.length := (List.getElem?_eq_some_iff.1 h2).1
        rw [h2]
        simp
        simpa using hlt
      · simp [hq]
/-- 'delete(m, k)', a key that is there -/
theorem MapO.drop {w : World} {B : Nat} {m : List (Int × Value)} (h : MapO w B m) {i : Nat} {k : Int} {u : Value} (hi : m[i]? = some (k, u)) (ty : TypeId) :
    ∃ w', (Builtin.delete_ #[98, 2] ty #[.map (some B), .int .i64 k]).run Try.prog w = .ok (.tuple #[]) w' ∧ MapO w' B (m.eraseIdx i) ∧ w.grownBy w' (some B) := by
  obtain ⟨es, clock, hb, hs, hm⟩ := h
  rcases findNow_spec (isK k) es.toList 0 (map_keys hm) with ⟨_, h2⟩ | ⟨j, e, h1, h2, h3⟩
  · exfalso
    have hlt : i < es.toList.length := by rw [map_len hm]; exact (List.getElem?_eq_some_iff.1 hi).1
    obtain ⟨p, hp, hk, _⟩ := map_get hm (List.getElem?_eq_getElem hlt)
    rw [hi] at hp
    cases hp
    exact h2 _ (List.getElem_mem hlt) hk
  · obtain ⟨p, hp, hk, _⟩ := map_get hm h2
    have hpk : p.1 = k := by rw [hk] at h3; simpa using h3
    have hij := map_one hs hm hp hi hpk
    subst hij
    refine ⟨putObj w B (.map (es.eraseIdxIfInBounds j) clock), ?_, ⟨_, _, (heap_set hb).1, stamped_erase hs j, ?_⟩, grown_putObj _ _ _⟩
    · simp [Builtin.delete_, run_underlying Try.underlying98, MapKept.run_getObj_map hb, run_checkKey Try.underlying2 (isK k), run_findKey Try.underlying2 h1, MapKept.run_setObj_map _ hb, Result.andThen, putObj]
    · have hlt : j < es.size := by simpa using (List.getElem?_eq_some_iff.1 h2).1
      rw [show es.eraseIdxIfInBounds j = es.eraseIdx j hlt by unfold Array.eraseIdxIfInBounds; rw [dif_pos hlt], Array.toList_eraseIdx]
      have hq : ∀ q, (es.toList[q]?).map (fun e : MapEntry => (e.key, e.val)) = (m[q]?).map (fun p : Int × Value => (Value.int .i64 p.1, p.2)) := fun q => by rw [← List.getElem?_map, ← List.getElem?_map, hm]
      apply List.ext_getElem?
      intro q
      simp only [List.getElem?_map, List.getElem?_eraseIdx]
      split <;> exact hq _
/-- 'len(m)' -/
theorem MapO.size {w : World} {B : Nat} {m : List (Int × Value)} (h : MapO w B m) (ty : TypeId) :
    (Builtin.len_ #[98] ty #[.map (some B)]).run Try.prog w = .ok (.int .i64 (m.length : Nat)) w := by
  obtain ⟨es, clock, hb, _, hm⟩ := h
  have hl := map_len hm
  simp [Builtin.len_, run_underlying Try.underlying98, MapKept.run_getObj_map hb, Result.andThen, ← hl, goInt]

theorem perm_erase {α : Type} {l : List α} {i : Nat} {x : α} (h : l[i]? = some x) : l.Perm (x :: l.eraseIdx i) := by
  induction l generalizing i with
  | nil => simp at h
  | cons y t ih =>
    cases i with
    | zero =>
      simp only [List.getElem?_cons_zero, Option.some.injEq] at h
      subst h
      simp
    | succ i =>
      simp only [List.getElem?_cons_succ] at h
      rw [List.eraseIdx_cons_succ]
      exact ((ih h).cons y).trans (List.Perm.swap _ _ _)
theorem perm_set {α : Type} {l : List α} {i : Nat} {x : α} (h : l[i]? = some x) (y : α) : (l.set i y).Perm (y :: l.eraseIdx i) := by
  induction l generalizing i with
  | nil => simp at h
  | cons z t ih =>
    cases i with
    | zero => simp
    | succ i =>
      simp only [List.getElem?_cons_succ] at h
      rw [List.set_cons_succ, List.eraseIdx_cons_succ]
      exact ((ih h).cons z).trans (List.Perm.swap _ _ _)
/-- block B is a map that holds just these entries, in whatever order -/
def MapI (w : World) (B : Nat) (m : List (Int × Value)) : Prop := ∃ m', MapO w B m' ∧ m'.Perm m
theorem MapI.perm {w : World} {B : Nat} {m m2 : List (Int × Value)} (h : MapI w B m) (hp : m.Perm m2) : MapI w B m2 := by
  obtain ⟨m', ho, hq⟩ := h
  exact ⟨m', ho, hq.trans hp⟩
theorem MapI.kept {w w' : World} {B : Nat} {m : List (Int × Value)} {row : Option Nat} (h : MapI w B m) (hg : w.grownBy w' row) (hne : row ≠ some B) : MapI w' B m := by
  obtain ⟨m', ho, hq⟩ := h
  exact ⟨m', ho.kept hg hne, hq⟩
theorem MapI.grown {w w' : World} {B : Nat} {m : List (Int × Value)} (h : MapI w B m) (hg : w.grownBy w' none) : MapI w' B m := h.kept hg (by simp)
theorem MapI.lt {w : World} {B : Nat} {m : List (Int × Value)} (h : MapI w B m) : B < w.heap.size := by
  obtain ⟨m', ho, _⟩ := h
  exact ho.lt
theorem MapI.drew {w : World} {B : Nat} {m : List (Int × Value)} (h : MapI w B m) : MapI w.drew B m := h
theorem MapI.made (w : World) : MapI (w.alloc (.map #[] 0)) w.heap.size [] := ⟨[], MapO.made w, List.Perm.refl _⟩
theorem perm_at {α : Type} {m' m : List α} (h : m'.Perm m) {i : Nat} {x : α} (hi : m[i]? = some x) : ∃ j, m'[j]? = some x ∧ (m'.eraseIdx j).Perm (m.eraseIdx i) := by
  have hm : x ∈ m' := h.mem_iff.2 (List.mem_of_getElem? hi)
  obtain ⟨j, hj⟩ := List.getElem?_of_mem hm
  exact ⟨j, hj, List.Perm.cons_inv (((perm_erase hj).symm.trans h).trans (perm_erase hi))⟩
/-- 'm[k]', where the key is there -/
theorem MapI.look {w : World} {B : Nat} {m : List (Int × Value)} (h : MapI w B m) {i : Nat} {k : Int} {v : Value} (hi : m[i]? = some (k, v)) :
    (Instr.lookup 98 (.map (some B)) (.int .i64 k) false).run Try.prog w = .ok v w := by
  obtain ⟨m', ho, hq⟩ := h
  obtain ⟨j, hj, _⟩ := perm_at hq hi
  exact ho.look hj
/-- '.. where it is not' -/
theorem MapI.miss {w : World} {B : Nat} {m : List (Int × Value)} (h : MapI w B m) {k : Int} (hi : ∀ p ∈ m, p.1 ≠ k) :
    (Instr.lookup 98 (.map (some B)) (.int .i64 k) false).run Try.prog w = .ok (.slice none 0 0) w := by
  obtain ⟨m', ho, hq⟩ := h
  exact ho.miss (fun p hp => hi p (hq.mem_iff.1 hp))
/-- 'm[k] = v', a new key -/
theorem MapI.push {w : World} {B : Nat} {m : List (Int × Value)} (h : MapI w B m) {k : Int} (hi : ∀ p ∈ m, p.1 ≠ k) (v : Value) :
    ∃ w', (Instr.mapUpdate 98 (.map (some B)) (.int .i64 k) v).run Try.prog w = .ok () w' ∧ MapI w' B (m ++ [(k, v)]) ∧ w.grownBy w' (some B) := by
  obtain ⟨m', ho, hq⟩ := h
  obtain ⟨w', h1, h2, h3⟩ := ho.push (fun p hp => hi p (hq.mem_iff.1 hp)) v
  exact ⟨w', h1, ⟨_, h2, hq.append_right _⟩, h3⟩
/-- 'm[k] = v', an old key -/
theorem MapI.set {w : World} {B : Nat} {m : List (Int × Value)} (h : MapI w B m) {i : Nat} {k : Int} {u : Value} (hi : m[i]? = some (k, u)) (v : Value) :
    ∃ w', (Instr.mapUpdate 98 (.map (some B)) (.int .i64 k) v).run Try.prog w = .ok () w' ∧ MapI w' B (m.set i (k, v)) ∧ w.grownBy w' (some B) := by
  obtain ⟨m', ho, hq⟩ := h
  obtain ⟨j, hj, he⟩ := perm_at hq hi
  obtain ⟨w', h1, h2, h3⟩ := ho.set hj v
  exact ⟨w', h1, ⟨_, h2, ((perm_set hj _).trans (he.cons _)).trans (perm_set hi _).symm⟩, h3⟩
/-- 'delete(m, k)', a key that is there -/
theorem MapI.drop {w : World} {B : Nat} {m : List (Int × Value)} (h : MapI w B m) {i : Nat} {k : Int} {u : Value} (hi : m[i]? = some (k, u)) (ty : TypeId) :
    ∃ w', (Builtin.delete_ #[98, 2] ty #[.map (some B), .int .i64 k]).run Try.prog w = .ok (.tuple #[]) w' ∧ MapI w' B (m.eraseIdx i) ∧ w.grownBy w' (some B) := by
  obtain ⟨m', ho, hq⟩ := h
  obtain ⟨j, hj, he⟩ := perm_at hq hi
  obtain ⟨w', h1, h2, h3⟩ := ho.drop hj ty
  exact ⟨w', h1, ⟨_, h2, he⟩, h3⟩
/-- 'len(m)' -/
theorem MapI.size {w : World} {B : Nat} {m : List (Int × Value)} (h : MapI w B m) (ty : TypeId) :
    (Builtin.len_ #[98] ty #[.map (some B)]).run Try.prog w = .ok (.int .i64 (m.length : Nat)) w := by
  obtain ⟨m', ho, hq⟩ := h
  rw [← hq.length_eq]
  exact ho.size ty

end Go.Proofs.Ytkemocbifancfaa
