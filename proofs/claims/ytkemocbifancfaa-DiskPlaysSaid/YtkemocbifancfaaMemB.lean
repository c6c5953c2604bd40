/-
  More of memory (for the seats behind vol's; vol's texts have these lemmas in their own files).
-/
import Derived.Test.YtkemocbifancfaaMem
import Derived.Deep.QuietTactic
import Derived.BigQuiet
import Derived.Deep.RegionHeldLaw
import Derived.Deep.Slices
import Derived.Deep.Upon
import Derived.Deep.AppendLies
import Derived.Lib.SmallJoins
namespace Go.Proofs.Ytkemocbifancfaa
open Go.RowKit Go.ChangeShapes Go.WideShapes Go.ChangeAt Go.Deep
set_option maxRecDepth 100000

theorem quiet_here {f : FuncId} {args : Array Value} {w : World} {n : Nat} {v : Value}
    (h : Calls Try.prog f args (w.drewN n) fun e w' => e = .returned v ∧ w.drewN n = w') : Calls Try.prog f args (w.drewN n) fun e w'' => e = .returned v ∧ ∃ m, w'' = w.drewN m :=
  h.mono fun _ _ ⟨he, hm⟩ => ⟨he, n, hm.symm⟩
theorem grown_drewN (w : World) (n : Nat) : w.grownBy (w.drewN n) none := ⟨rfl, rfl, rfl, Nat.le_refl _, fun _ _ _ => rfl⟩
theorem grown_drew1 (w : World) : w.grownBy w.drew none := ⟨rfl, rfl, rfl, Nat.le_refl _, fun _ _ _ => rfl⟩
theorem grown_cell {w w' : World} {a : Addr} {v : Value} (h : w.grownBy w' none) (hc : w.cell? a = some v) : w'.cell? a = some v :=
  (World.cell?_of_block (h.block a.block (World.block_lt_of_cell? w _ hc) (by simp))).trans hc
theorem grown_of_below {w w' : World} (h : Below w.heap.size w w') : w.grownBy w' none := ⟨h.os, h.tape, h.output, h.size, fun k hk _ => h.block k hk⟩
theorem grown_row {a b c : World} {v : Value} (h : a.grownBy b none) (hv : ∀ g, v.ownBlock = some g → a.heap.size ≤ g) (k : b.grownBy c v.ownBlock) : a.grownBy c none := by
  cases e : v.ownBlock with
  | none => rw [e] at k; exact grown_trans h k
  | some g => rw [e] at k; exact grown_new h (hv g e) k
theorem take_snoc {α : Type} {T : List α} {k : Nat} {y : α} (h : T[k]? = some y) : T.take (k + 1) = T.take k ++ [y] := by
  rw [List.take_add_one, h]; rfl
/-- a byte of a row that is read -/
theorem RB.get {w : World} {a : Option Addr} {l : List UInt8} (h : RB w a l) (k : Nat) (hk : k < l.length) : ∃ b o, a = some ⟨b, o, none⟩ ∧ w.cell? ⟨b, o + k, none⟩ = some (bval (l.getD k 0)) := by
  obtain ⟨b, o, e, hc⟩ := h k hk
  exact ⟨b, o, e, by rw [hc, List.getD_eq_getElem?_getD, List.getElem?_eq_getElem hk]; rfl⟩
theorem min_int (x K m : Int) (h : m = min x K) (u : World) : (Builtin.min_ #[3, 3] 3 #[.int .i64 x, .int .i64 K]).run Try.prog u = .ok (.int .i64 m) u := by
  subst h
  simp only [Builtin.min_, List.foldlM_cons, List.foldlM_nil, Builtin.min2, Sem.run_bind, Sem.run_pure, Result.andThen_ok]
  congr 2
  split <;> omega
theorem Box.set2 {w : World} {g : Nat} {T : TypeId} {cs : List Value} (hb : Box w g T cs) (k : Nat) (hk : k ≠ g) (u v : Value) : Box ((w.setCell ⟨k, 0, none⟩ u).setCell ⟨k, 1, none⟩ v) g T cs :=
  (hb.kept (grown_setCell w k 0 u) (by simpa using hk)).kept (grown_setCell _ k 1 v) (by simpa using hk)

/-- 'append(s, x...)' of bytes: and the row is where it was, or in a new block. -/
theorem wp_append_bytes2 {o : Oper} {a : Act} {w : World} {K : Act → World → Prop} {Q : Exit → Act → World → Prop} (s x : Operand)
    (ho : o.op = .call { callee := .builtin .append, args := #[s, x], argTypes := #[23, 23] })
    (base : Nat) (v : Value) (l : List UInt8) (hs : a.eval s = v) (hown : OwnB w base v l)
    (ao : Option Addr) (m c : Nat) (src : List UInt8) (hx : a.eval x = .slice ao m c) (hr : RB w ao src) (hm : src.length = m)
    (hbytes : l.length + m ≤ 140737488355328) (hbase : base ≤ w.heap.size)
    (h : ∀ v' w', OwnB w' base v' (l ++ src) → w.grownBy w' v.ownBlock → (∀ k, v'.ownBlock = some k → v.ownBlock = some k ∨ w.heap.size ≤ k) → K (a.put o.dst v') w') :
    Oper.wp Try.prog o a w K Q := by
  obtain ⟨i, hi, hz0, hz1, hz2⟩ := info_parts info_u8
  have h63 : l.length + m ≤ maxLen := by unfold maxLen; omega
  subst hm
  by_cases h0 : src = []
  · subst h0
    obtain ⟨va, vn, vc, rfl, hvn⟩ := hown.len
    have hle : vn ≤ vc := by
      rcases hown.2 with ⟨hv, _⟩ | ⟨g, cap, cur, hv, _, _, hnc, _⟩
      · cases hv; exact Nat.le_refl _
      · cases hv; exact hnc
    have hrun : (Builtin.append_ #[23, 23] o.type #[.slice va vn vc, .slice ao 0 c]).run Try.prog w = .ok (.slice va vn vc) w := by
      cases va <;> cases ao <;> simp [Builtin.append_, run_underlying Try.underlying23, sizeOf, typeInfo, hi, Builtin.lenOf, Builtin.firstCells, loadCells, loadCellsFrom, hle, storeCells]
    unfold Oper.wp execOp
    simp only [ho, resolve, invoke, builtin, Sem.run_bind, Sem.run_pure, Result.andThen_ok, List.map_toArray, List.map_cons, List.map_nil, hs, hx, hrun, List.length_nil]
    exact h (.slice va vn vc) w (by simpa using hown) (World.grownBy.refl _ _) (fun k hk => .inl hk)
  · cases ao with
    | none =>
      cases src with
      | nil => exact absurd rfl h0
      | cons y ys => obtain ⟨b, o', e, _⟩ := hr 0 (by simp); cases e
    | some ad =>
      refine wp_append_lies w s x 23 ho base 5 i (.int .u8 0) 1 1 Try.underlying23 hi hz0 hz1 hz2 rfl (by decide) v l.length (l.map bval) hs hown ad src.length c (src.map bval) hx (by simp) hr.cells (bval_one _) (by have := List.length_pos_iff.2 h0; omega) h63 (by omega) hbase w.heap.size rfl ?_
      intro g cap w' h1 h2 h3 _
      exact h _ _ (by unfold OwnB; rw [List.length_append, List.map_append]; exact h1) h2 (fun k hk => by
        have e : g = k := by simpa [Value.ownBlock] using hk
        subst e
        exact h3.imp id (fun e => by omega))
theorem wpList_append_bytes2 {ops : Array Oper} {rest : List Oper} {o : Oper} {a : Act} {w : World} {Q : Exit → Act → World → Prop} (hg : o.guard = none) (s x : Operand)
    (ho : o.op = .call { callee := .builtin .append, args := #[s, x], argTypes := #[23, 23] })
    (base : Nat) (v : Value) (l : List UInt8) (hs : a.eval s = v) (hown : OwnB w base v l)
    (ao : Option Addr) (m c : Nat) (src : List UInt8) (hx : a.eval x = .slice ao m c) (hr : RB w ao src) (hm : src.length = m)
    (hbytes : l.length + m ≤ 140737488355328) (hbase : base ≤ w.heap.size)
    (h : ∀ v' w', OwnB w' base v' (l ++ src) → w.grownBy w' v.ownBlock → (∀ k, v'.ownBlock = some k → v.ownBlock = some k ∨ w.heap.size ≤ k) → wpList Try.prog ops Q rest (a.put o.dst v') w') :
    wpList Try.prog ops Q (o :: rest) a w :=
  wpList_plain hg fun _ hK => wp_append_bytes2 s x ho base v l hs hown ao m c src hx hr hm hbytes hbase fun v' w' h1 h2 h3 => hK _ _ (h v' w' h1 h2 h3)

/-- a slice of bytes in memory that the call itself made -/
def BytesPost (w : World) (l : List UInt8) (e : Ending) (w' : World) : Prop :=
  ∃ a n c, e = .returned (.slice a n c) ∧ l.length = n ∧ RB w' a l ∧ (∀ ad, a = some ad → w.heap.size ≤ ad.block) ∧ w.grownBy w' none

section
variable {H : Type} {enc : TypeId × Value → H} {W : World}
/-- bytes in a cell that was read -/
theorem bytes_of {n : Nat} {c : Value} {x : DataW H × List MemPlace} (hf : DataW.trod enc Try.prog W 0 (fun _ => true) true n 23 [c] = some x) :
    ∃ a len cap l, c = .slice a len cap ∧ InB W a len cap l := by
  rcases open_ints Try.underlying23 Try.underlying5 (by kernel_rfl) hf with ⟨hcs, _⟩ | ⟨x, len, cap, zs, hcs, _, hl, hm, hz, hx, hcell, hwz⟩
  · simp at hcs
    subst hcs
    exact ⟨none, 0, 0, [], rfl, rfl, by omega, by simp [maxLen], fun _ => rfl, RB.nil _ _⟩
  · simp at hcs
    subst hcs
    have hzl : zs.length = cap := by simpa using hz
    obtain ⟨bs, rfl⟩ := bytes_of_wf zs hwz
    rw [List.length_map] at hzl
    refine ⟨_, _, _, bs.take len, rfl, ?_, hl, hm, (fun h => by cases h), ?_⟩
    · rw [List.length_take]; omega
    · intro i hi
      rw [List.length_take] at hi
      have h0 := hcell 0 (by rw [List.length_map]; omega)
      have hs : x.spot = none := by simpa [Addr.add] using World.cell?_spot h0
      obtain ⟨b, o, s⟩ := x
      simp only at hs
      subst hs
      refine ⟨b, o, rfl, ?_⟩
      have hi' := hcell i (by rw [List.length_map]; omega)
      rw [Addr.add_lit] at hi'
      rw [hi']
      simp [bval, List.getElem_take, show i < bs.length by omega]
end

end Go.Proofs.Ytkemocbifancfaa
