/-
  Loops over maps from whole numbers to slices of bytes; copies of such maps, and of such slices.
-/
import Derived.Test.YtkemocbifancfaaTMap
import Derived.Maps.RangeWalk
import Derived.Laws.Externs
namespace Go.Proofs.Ytkemocbifancfaa
open Go.RowKit
open Go.MapKept (IsKey Stamped)
open Go.ChangeMaps (setBlock)
set_option maxRecDepth 100000

/-- block r is an iterator over the map in block B, which holds the entries m; dn says which keys have come -/
def IterI (w : World) (B r : Nat) (m : List (Int × Value)) (dn : Int → Bool) : Prop :=
  ∃ es clock since seen c0, w.heap[B]? = some (.map es clock) ∧ Stamped es clock ∧ (es.toList.map (fun e => (e.key, e.val))).Perm (m.map (fun p => (Value.int .i64 p.1, p.2))) ∧
    w.heap[r]? = some (.mapIter (some B) since seen c0) ∧ (∀ x ∈ es.toList, x.born < since) ∧ since ≤ c0 ∧ since ≤ clock ∧ ∀ x ∈ es.toList, ∀ k, x.key = .int .i64 k → dn k = seen.contains x.born
theorem IterI.kept {w w' : World} {B r : Nat} {m : List (Int × Value)} {dn : Int → Bool} {row : Option Nat} (h : IterI w B r m dn) (hg : w.grownBy w' row) (hB : row ≠ some B) (hr : row ≠ some r) : IterI w' B r m dn ∧ w'.rangeLeft B r = w.rangeLeft B r := by
  obtain ⟨es, clock, since, seen, c0, hb, hs, hm, hi, q⟩ := h
  have h1 : B < w.heap.size := (Array.getElem?_eq_some_iff.1 hb).1
  have h2 : r < w.heap.size := (Array.getElem?_eq_some_iff.1 hi).1
  have hb' : w'.heap[B]? = some (.map es clock) := by rw [hg.block B h1 (fun e => hB e.symm)]; exact hb
  have hi' : w'.heap[r]? = some (.mapIter (some B) since seen c0) := by rw [hg.block r h2 (fun e => hr e.symm)]; exact hi
  exact ⟨⟨es, clock, since, seen, c0, hb', hs, hm, hi', q⟩, by simp only [World.rangeLeft, hb, hi, hb', hi']⟩
theorem IterI.map {w : World} {B r : Nat} {m : List (Int × Value)} {dn : Int → Bool} (h : IterI w B r m dn) : r < w.heap.size ∧ B < w.heap.size ∧ r ≠ B := by
  obtain ⟨es, clock, since, seen, c0, hb, hs, hm, hi, q⟩ := h
  exact ⟨(Array.getElem?_eq_some_iff.1 hi).1, (Array.getElem?_eq_some_iff.1 hb).1, fun e => by rw [e, hb] at hi; cases hi⟩
theorem MapI.range {w : World} {B : Nat} {m : List (Int × Value)} (h : MapI w B m) :
    ∃ w', (Instr.range 98 (.map (some B))).run Try.prog w = .ok (.pointer (some ⟨w.heap.size, 0, none⟩)) w' ∧ IterI w' B w.heap.size m (fun _ => false) ∧ w.grownBy w' none ∧ w'.heap.size = w.heap.size + 1 := by
  obtain ⟨m', ⟨es, clock, hb, hs, hm⟩, hp⟩ := h
  have hlt : B < w.heap.size := (Array.getElem?_eq_some_iff.1 hb).1
  refine ⟨_, run_range_map w _ _ _ B es clock Try.underlying98 hb, ⟨es, clock, clock, #[], clock, ((MapKept.heap_alloc w _).2 B hlt).trans hb, hs, ?_, (MapKept.heap_alloc w _).1, hs.1, Nat.le_refl _, Nat.le_refl _, ?_⟩, World.grownBy_alloc w _ none, by simp⟩
  · rw [hm]
    exact hp.map _
  · intro x _ k _
    simp
theorem grown_setBlock (w : World) (r : Nat) (o : Obj) : w.grownBy (setBlock w r o) (some r) :=
  ⟨rfl, rfl, rfl, by simp [setBlock], fun k _ hne => by
    have h : r ≠ k := fun e => hne (by rw [e])
    simp [setBlock, h]⟩
/-- the step: nothing is left, or one that has not come comes -/
theorem IterI.next {w : World} {B r : Nat} {m : List (Int × Value)} {dn : Int → Bool} (h : IterI w B r m dn) (ty : TypeId) :
    ((∀ p ∈ m, dn p.1 = true) ∧ (Instr.next (.pointer (some ⟨r, 0, none⟩)) false ty).run Try.prog w = .ok (.tuple #[.bool false]) w) ∨
    ∃ p ∈ m, dn p.1 = false ∧ ∃ w', (Instr.next (.pointer (some ⟨r, 0, none⟩)) false ty).run Try.prog w = .ok (.tuple #[.bool true, .int .i64 p.1, p.2]) w' ∧ IterI w' B r m (fun k => dn k || k == p.1) ∧ w'.rangeLeft B r < w.rangeLeft B r ∧
      w.grownBy w' (some r) ∧ w'.heap.size = w.heap.size ∧ (Instr.entry (.pointer (some ⟨r, 0, none⟩))).run Try.prog w' = .ok (.tuple #[.int .i64 p.1, p.2]) w' := by
  have hne := h.map.2.2
  have hlr := h.map.1
  obtain ⟨es, clock, since, seen, c0, hb, hs, hm, hi, hold, hsc, hcl, hdn⟩ := h
  have hkey : ∀ x ∈ es.toList, ∃ p ∈ m, x.key = .int .i64 p.1 ∧ x.val = p.2 := fun x hx => by
    have h1 := hm.mem_iff.1 (List.mem_map.2 ⟨x, hx, rfl⟩)
    obtain ⟨p, hp, he⟩ := List.mem_map.1 h1
    simp only [Prod.mk.injEq] at he
    exact ⟨p, hp, he.1.symm, he.2.symm⟩
  rcases run_next_at (P := Try.prog) w ty r B since c0 seen es clock hi hb hold hsc with ⟨h0, hrun⟩ | ⟨e, he, w1, hal, hrun⟩
  · refine .inl ⟨fun p hp => ?_, hrun⟩
    have h1 := hm.symm.mem_iff.1 (List.mem_map.2 ⟨p, hp, rfl⟩)
    obtain ⟨x, hx, hxe⟩ := List.mem_map.1 h1
    simp only [Prod.mk.injEq] at hxe
    rw [hdn x hx p.1 hxe.1]
    exact all_seen es seen h0 x hx
  · have hml := mem_left he
    obtain ⟨p, hp, hk, hv⟩ := hkey e hml.1
    have hb1 : w1.heap[B]? = some (.map es clock) := by rcases hal with rfl | rfl <;> exact hb
    have hsz1 : w1.heap.size = w.heap.size := by rcases hal with rfl | rfl <;> rfl
    have hbn : (setBlock w1 r (.mapIter (some B) since (seen.push e.born) clock)).heap[B]? = some (.map es clock) := by
      rw [← hb1]
      simp [setBlock, hne]
    have hin : (setBlock w1 r (.mapIter (some B) since (seen.push e.born) clock)).heap[r]? = some (.mapIter (some B) since (seen.push e.born) clock) := by
      have hlr1 : r < w1.heap.size := by rw [hsz1]; exact hlr
      simp [setBlock, hlr1]
    refine .inr ⟨p, hp, by rw [hdn e hml.1 p.1 hk]; exact hml.2, _, by rw [hrun, hk, hv], ⟨es, clock, since, seen.push e.born, clock, hbn, hs, hm, hin, hold, hcl, hcl, ?_⟩, ?_, ?_, by simp [setBlock, hsz1], ?_⟩
    · intro x hx k hxk
      show (dn k || k == p.1) = _
      rw [contains_push, hdn x hx k hxk]
      congr 1
      by_cases hke : k = p.1
      · subst hke
        have hbe : x = e := by
          have hpw := ((MapKept.stamped_iff es clock).1 hs).2.2
          exact entry_eq_of_key hpw hx hml.1 (by rw [hxk, hk])
        rw [hbe]
        simp
      · have : x.born ≠ e.born := fun hbe => by
          have := born_inj hs.2.1 hx hml.1 hbe
          rw [this, hk] at hxk
          exact hke (by simpa using hxk.symm)
        rw [beq_eq_false_iff_ne.2 hke, beq_eq_false_iff_ne.2 this]
    · simp only [World.rangeLeft, hb, hi, hbn, hin]
      exact left_shrinks es seen e he
    · rcases hal with rfl | rfl
      · exact grown_setBlock _ _ _
      · have h1 := grown_setBlock w.drew r (.mapIter (some B) since (seen.push e.born) clock)
        exact ⟨h1.os, h1.tape, h1.output, h1.size, h1.block⟩
    · rw [run_entry_at (P := Try.prog) _ r B since seen es clock e hin hbn hml.1 hs.2.1, hk, hv]
section
variable (w : World) {ops : Array Oper} {rest : List Oper} {o : Oper} {a : Act} {Q : Exit → Act → World → Prop}
/-- 'range m' -/
theorem wpList_range_mapI (hg : o.guard = none) (x : Operand) (hop : o.op = Op.range 98 x) (B : Nat) (m : List (Int × Value)) (hm : a.eval x = .map (some B)) (h : MapI w B m)
    (hK : ∀ w', IterI w' B w.heap.size m (fun _ => false) → w.grownBy w' none → w'.heap.size = w.heap.size + 1 → wpList Try.prog ops Q rest (a.put o.dst (.pointer (some ⟨w.heap.size, 0, none⟩))) w') :
    wpList Try.prog ops Q (o :: rest) a w := by
  refine wpList_plain hg fun K' hK' => ?_
  obtain ⟨w', hrun, r1, r2, r3⟩ := h.range
  unfold Oper.wp
  simp [execOp, hop, hm, hrun, Result.andThen]
  exact hK' _ _ (hK w' r1 r2 r3)
/-- the step of a loop over a map -/
theorem wpList_next_mapI (hg : o.guard = none) (it : Operand) (hop : o.op = Op.next it false) (B r : Nat) (m : List (Int × Value)) (dn : Int → Bool) (hit : a.eval it = .pointer (some ⟨r, 0, none⟩)) (h : IterI w B r m dn)
    (hDone : (∀ p ∈ m, dn p.1 = true) → wpList Try.prog ops Q rest (a.put o.dst (.tuple #[.bool false])) w)
    (hMore : ∀ (k : Int) (v : Value) (w' : World), (k, v) ∈ m → dn k = false → IterI w' B r m (fun z => dn z || z == k) → w'.rangeLeft B r < w.rangeLeft B r → w.grownBy w' (some r) → w'.heap.size = w.heap.size →
      (Instr.entry (.pointer (some ⟨r, 0, none⟩))).run Try.prog w' = .ok (.tuple #[.int .i64 k, v]) w' → wpList Try.prog ops Q rest (a.put o.dst (.tuple #[.bool true, .int .i64 k, v])) w') :
    wpList Try.prog ops Q (o :: rest) a w := by
  refine wpList_plain hg fun K' hK' => ?_
  unfold Oper.wp
  rcases h.next o.type with ⟨h0, hrun⟩ | ⟨p, hp, hd, w', hrun, r1, r2, r3, r4, r5⟩
  · simp [execOp, hop, hit, hrun, Result.andThen]
    exact hK' _ _ (hDone h0)
  · simp [execOp, hop, hit, hrun, Result.andThen]
    exact hK' _ _ (hMore p.1 p.2 w' hp hd r1 r2 r3 r4 r5)
end
theorem run_typeAssert_map (w : World) (t xT k e : TypeId) (v : Value) (h : Try.prog.underlying t = some (.map k e)) : (Instr.typeAssert (.iface t v) xT t false).run Try.prog w = .ok v w := by
  simp [Instr.typeAssert, run_underlying h, go_sem, Result.andThen]
theorem run_maps_clone {w : World} {r : Nat} {es : Array MapEntry} {clock : Nat} (t : TypeId) (hb : w.heap[r]? = some (.map es clock)) :
    (Extern.MapsClone.clone #[.iface t (.map (some r))]).run Try.prog w = .ok (.iface t (.map (some w.heap.size))) (w.alloc (.map es clock)) := by
  have e : Extern.MapsClone.clone #[.iface t (.map (some r))] = (getObj r >>= fun o => match o with
      | .map entries clock => (newObj (.map entries clock) >>= fun n => pure (.iface t (.map (some n))))
      | _ => stuck "maps.clone: a map expected") := rfl
  rw [e]
  simp [MapKept.run_getObj_map hb, Result.andThen, go_sem]
theorem map_nilI (M : Nat) (w : World) : (binOp BinOp.eql 98 (Value.map (some M)) (Value.map none)).run Try.prog w = .ok (.bool false) w := by kernel_rfl
theorem maps_clone (B : Nat) (m : List (Int × Value)) (w : World) (h : MapI w B m) :
    Calls Try.prog 73 #[.map (some B)] w fun r w' => r = .returned (.map (some w.heap.size)) ∧ MapI w' w.heap.size m ∧ w.grownBy w' none ∧ w'.heap.size = w.heap.size + 1 := by
  obtain ⟨m', ⟨es, clock, hb, hs, hm⟩, hp⟩ := h
  have hmn := map_nilI
  have HX := Lib.hid (show ∀ u, (w.alloc (.map es clock)) = u → MapI u w.heap.size m ∧ w.grownBy u none ∧ u.heap.size = w.heap.size + 1 from fun u e => by
    subst e
    exact ⟨⟨m', ⟨es, clock, heap_alloc_new w _, hs, hm⟩, hp⟩, World.grownBy_alloc w _ none, by simp⟩)
  have HB := Lib.hid hb
  clear hb hs hm hp
  go_enter Try.func73, Try.ntmps73
  go_wp2_with fail
  rw [run_callFunc_extern Try.func78 (by kernel_rfl) (by kernel_rfl) (by kernel_rfl) (e := Extern.MapsClone.clone) (by kernel_rfl), run_maps_clone 98 HB.out]
  simp only [Result.andThen]
  rw [Oper.upon_value]
  go_wp2_with fail
  rw [run_typeAssert_map _ 98 _ _ _ _ Try.underlying98]
  simp only [Result.andThen]
  rw [Oper.upon_value]
  go_wp2_with fail
  go_ret
  exact ⟨rfl, HX.out _ rfl⟩
def CloneB (w : World) (l : List UInt8) (r : Ending) (w' : World) : Prop := ∃ v, r = .returned v ∧ OwnB w' w.heap.size v l ∧ w.grownBy w' none
set_option maxHeartbeats 1600000 in
theorem sl_cloneB (b o n c : Nat) (l : List UInt8) (w : World) (hr : RB w (some ⟨b, o, none⟩) l) (hn : l.length = n) (hn0 : 0 < n) (hsm : n ≤ 1000000) :
    Calls Try.prog 55 #[.slice (some ⟨b, o, none⟩) n c] w (CloneB w l) := by
  have hA := World.grownBy_alloc w (.cells #[] 5) none
  have ho0 : OwnB (w.alloc (.cells #[] 5)) w.heap.size (.slice (some ⟨w.heap.size, 0, none⟩) 0 0) [] := OwnB.made w #[] 0 (Nat.zero_le _) rfl
  have HA := Lib.hid hA; have HO := Lib.hid ho0
  have HR := Lib.hid (hr.oldg hA); have HN := Lib.hid (fun _ : True => hn); have HSM := Lib.hid (And.intro hsm hn0)
  clear hr hn hsm hA ho0 hn0
  have hnil := fun u => Go.Lib.run_eql_slice_nil (P := Try.prog) u 23 5 (some ⟨b, o, none⟩) n c 0 0 Try.underlying23
  go_enter Try.func55, Try.ntmps55
  go_wp2_with (at_builtin; refine wpList_append_bytes (o := ⟨some 7, _, _, _, _, _⟩) rfl _ _ rfl w.heap.size _ [] rfl HO.out _ n c l rfl HR.out (HN.out trivial) (fun h => by cases h) (by have := HSM.out; simp; omega) HA.out.size ?_)
  intro v w' ho hg
  have HO2 := Lib.hid ho
  have HG2 := Lib.hid (show w.grownBy w' none from grown_row HA.out (fun z h => (HO.out.lt z h).1) hg)
  clear ho hg
  go_wp2_with fail
  go_ret
  exact ⟨_, rfl, HO2.out, HG2.out⟩

end Go.Proofs.Ytkemocbifancfaa
