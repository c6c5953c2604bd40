/-
  Rows of structs: slices whose elements are k cells each.
-/
import Derived.Test.YtkemocbifancfaaLook
namespace Go.Proofs.Ytkemocbifancfaa
open Go.RowKit
set_option maxRecDepth 100000

/-- from a on the world holds the elements L, k cells each -/
def Elems (w : World) (k : Nat) (a : Option Addr) (L : List (List Value)) : Prop :=
  ∀ i (h : i < L.length), ∃ b o, a = some ⟨b, o, none⟩ ∧ ∀ j, j < k → w.cell? ⟨b, o + i * k + j, none⟩ = (L[i])[j]?
/-- the slice v, nil or a row of the call's own (its block from B on), owns the elements L, k cells of type T each -/
def OwnR (w : World) (B : Nat) (T : TypeId) (k : Nat) (v : Value) (L : List (List Value)) : Prop := (∀ c ∈ L, c.length = k) ∧ w.ownsRow B T k v L.length L.flatten
theorem OwnR.nil (w : World) (B : Nat) (T : TypeId) (k : Nat) : OwnR w B T k (.slice none 0 0) [] := ⟨fun _ h => (by cases h), World.ownsRow_nil _ _ _ _⟩
theorem OwnR.lt {w : World} {B : Nat} {T : TypeId} {k : Nat} {v : Value} {L : List (List Value)} (h : OwnR w B T k v L) : ∀ q, v.ownBlock = some q → B ≤ q ∧ q < w.heap.size := World.ownsRow.lt h.2
theorem OwnR.kept {w w' : World} {B : Nat} {T : TypeId} {k : Nat} {v : Value} {L : List (List Value)} {row : Option Nat} (h : OwnR w B T k v L) (hg : w.grownBy w' row) (hne : v.ownBlock = none ∨ v.ownBlock ≠ row) : OwnR w' B T k v L := ⟨h.1, World.ownsRow.kept h.2 hg hne⟩
theorem OwnR.grown {w w' : World} {B : Nat} {T : TypeId} {k : Nat} {v : Value} {L : List (List Value)} (h : OwnR w B T k v L) (hg : w.grownBy w' none) : OwnR w' B T k v L := h.kept hg (by cases v.ownBlock <;> simp)
theorem OwnR.len {w : World} {B : Nat} {T : TypeId} {k : Nat} {v : Value} {L : List (List Value)} (h : OwnR w B T k v L) : ∃ a c, v = .slice a L.length c := by
  rcases h.2.2 with ⟨hv, h0⟩ | ⟨g, cap, cur, hv, _⟩
  · rw [h0]; exact ⟨none, 0, hv⟩
  · exact ⟨_, _, hv⟩
theorem flatten_get {k : Nat} : ∀ (L : List (List Value)), (∀ c ∈ L, c.length = k) → ∀ i (h : i < L.length) j, j < k → L.flatten[i * k + j]? = (L[i])[j]? := by
  intro L
  induction L with
  | nil => intro _ i h; simp at h
  | cons c L ih =>
    intro hc i h j hj
    have h0 := hc c (List.mem_cons_self ..)
    rw [List.flatten_cons]
    cases i with
    | zero => rw [Nat.zero_mul, Nat.zero_add, List.getElem?_append_left (by omega)]; rfl
    | succ i =>
      rw [List.getElem?_append_right (by rw [h0, Nat.add_mul]; omega), h0, show (i + 1) * k + j - k = i * k + j by rw [Nat.add_mul]; omega]
      exact ih (fun d hd => hc d (List.mem_cons_of_mem _ hd)) i (by simpa using h) j hj
theorem flatten_len {k : Nat} : ∀ (L : List (List Value)), (∀ c ∈ L, c.length = k) → L.flatten.length = L.length * k := by
  intro L
  induction L with
  | nil => intro _; simp
  | cons c L ih =>
    intro hc
    rw [List.flatten_cons, List.length_append, hc c (List.mem_cons_self ..), ih (fun d hd => hc d (List.mem_cons_of_mem _ hd)), List.length_cons, Nat.add_mul]
    omega
theorem OwnR.elems {w : World} {B : Nat} {T : TypeId} {k : Nat} {a : Option Addr} {n c : Nat} {L : List (List Value)} (h : OwnR w B T k (.slice a n c) L) : Elems w k a L := by
  intro i hi
  rcases h.2.2 with ⟨hv, h0⟩ | ⟨g, cap, cur, hv, hb, hg, hn, hm, hs, ht⟩
  · omega
  · cases hv
    refine ⟨g, 0, rfl, fun j hj => ?_⟩
    rw [Nat.zero_add, cell_of_row w g (i * k + j) cur T (0, 0) hg]
    have hx : i * k + j < L.length * k := by
      have : (i + 1) * k ≤ L.length * k := Nat.mul_le_mul_right k hi
      rw [Nat.add_mul] at this
      omega
    have : (cur.toList.take (L.length * k))[i * k + j]? = L.flatten[i * k + j]? := by rw [ht]
    rw [List.getElem?_take, if_pos hx, flatten_get L h.1 i hi j hj] at this
    simpa using this
theorem Elems.grown {w w' : World} {k : Nat} {a : Option Addr} {L : List (List Value)} (h : Elems w k a L) (hl : ∀ c ∈ L, c.length = k) (hg : w.grownBy w' none) : Elems w' k a L := by
  intro i hi
  obtain ⟨b, o, e, hc⟩ := h i hi
  refine ⟨b, o, e, fun j hj => ?_⟩
  have hj' : j < (L[i]).length := by rw [hl _ (List.getElem_mem hi)]; exact hj
  have h1 := hc j hj
  rw [List.getElem?_eq_getElem hj'] at h1 ⊢
  exact grown_cell hg h1

/-- 'append(s, u)' of one struct; u lies in a block of its own. -/
theorem wp_append_elem {o : Oper} {a : Act} {w : World} {K : Act → World → Prop} {Q : Exit → Act → World → Prop} (s x : Operand) (TS TE : TypeId)
    (ho : o.op = .call { callee := .builtin .append, args := #[s, x], argTypes := #[TS, TS] })
    (hTS : Try.prog.underlying TS = some (.slice TE)) (z : Value) (k bytes : Nat) (hinfo : (Try.prog.info? TE).map (fun i => (i.zero, i.size, i.bytes)) = some (some z, k, bytes)) (hz : z.cells.size = k) (hk : 0 < k)
    {base : Nat} {v : Value} {L : List (List Value)} (hown : OwnR w base TE k v L) (hs : a.eval s = v)
    {G c : Nat} {us : List Value} {fr : Nat × Nat} (hG : w.heap[G]? = some (.cells us.toArray TE fr)) (hx : a.eval x = .slice (some ⟨G, 0, none⟩) 1 c) (hus : us.length = k) (hu : ∀ u ∈ us, u.oneCell' = true)
    (hbytes : (L.length + 1) * bytes ≤ 140737488355328) (hlen : L.length < 140737488355328) (hbase : base ≤ w.heap.size)
    (h : ∀ g cap w', OwnR w' base TE k (.slice (some ⟨g, 0, none⟩) (L.length + 1) cap) (L ++ [us]) → w.grownBy w' v.ownBlock → (v.ownBlock = some g ∨ w.heap.size ≤ g) → K (a.put o.dst (.slice (some ⟨g, 0, none⟩) (L.length + 1) cap)) w') :
    Oper.wp Try.prog o a w K Q := by
  obtain ⟨i, hi, hz0, hz1, hz2⟩ := info_parts hinfo
  have h63 : L.length + 1 ≤ maxLen := by unfold maxLen; omega
  refine wp_append_lies w s x TS ho base TE i z k bytes hTS hi hz0 hz1 hz2 hz hk v L.length L.flatten hs hown.2 ⟨G, 0, none⟩ 1 c us hx (by omega) ?_ hu (by omega) h63 hbytes hbase w.heap.size rfl ?_
  · have := World.news_of_block (cs := us.toArray) hG
    simpa using this
  intro g cap w' h1 h2 h3 _
  refine h g cap w' ⟨fun d hd => ?_, ?_⟩ h2 (h3.imp id (fun e => by omega))
  · rcases List.mem_append.1 hd with hd | hd
    · exact hown.1 d hd
    · rw [List.mem_singleton] at hd; rw [hd]; exact hus
  · rw [List.length_append, List.flatten_append]
    simpa using h1
theorem wpList_append_elem {ops : Array Oper} {rest : List Oper} {o : Oper} {a : Act} {w : World} {Q : Exit → Act → World → Prop} (hgd : o.guard = none) (s x : Operand) (TS TE : TypeId)
    (ho : o.op = .call { callee := .builtin .append, args := #[s, x], argTypes := #[TS, TS] })
    (hTS : Try.prog.underlying TS = some (.slice TE)) (z : Value) (k bytes : Nat) (hinfo : (Try.prog.info? TE).map (fun i => (i.zero, i.size, i.bytes)) = some (some z, k, bytes)) (hz : z.cells.size = k) (hk : 0 < k)
    {base : Nat} {v : Value} {L : List (List Value)} (hown : OwnR w base TE k v L) (hs : a.eval s = v)
    {G c : Nat} {us : List Value} {fr : Nat × Nat} (hG : w.heap[G]? = some (.cells us.toArray TE fr)) (hx : a.eval x = .slice (some ⟨G, 0, none⟩) 1 c) (hus : us.length = k) (hu : ∀ u ∈ us, u.oneCell' = true)
    (hbytes : (L.length + 1) * bytes ≤ 140737488355328) (hlen : L.length < 140737488355328) (hbase : base ≤ w.heap.size)
    (h : ∀ g cap w', OwnR w' base TE k (.slice (some ⟨g, 0, none⟩) (L.length + 1) cap) (L ++ [us]) → w.grownBy w' v.ownBlock → (v.ownBlock = some g ∨ w.heap.size ≤ g) → wpList Try.prog ops Q rest (a.put o.dst (.slice (some ⟨g, 0, none⟩) (L.length + 1) cap)) w') :
    wpList Try.prog ops Q (o :: rest) a w :=
  wpList_plain hgd fun _ hK => wp_append_elem s x TS TE ho hTS z k bytes hinfo hz hk hown hs hG hx hus hu hbytes hlen hbase fun g cap w' h1 h2 h3 => hK _ _ (h g cap w' h1 h2 h3)
theorem step_append_elem {ops : Array Oper} {o : Oper} {a : Act} {w : World} {K : Act → World → Prop} {Q : Exit → Act → World → Prop} {E : Prop} (hgd : o.guard = none) (s x : Operand) (TS TE : TypeId)
    (ho : o.op = .call { callee := .builtin .append, args := #[s, x], argTypes := #[TS, TS] })
    (hTS : Try.prog.underlying TS = some (.slice TE)) (z : Value) (k bytes : Nat) (hinfo : (Try.prog.info? TE).map (fun i => (i.zero, i.size, i.bytes)) = some (some z, k, bytes)) (hz : z.cells.size = k) (hk : 0 < k)
    {base : Nat} {v : Value} {L : List (List Value)} (hown : OwnR w base TE k v L) (hs : a.eval s = v)
    {G c : Nat} {us : List Value} {fr : Nat × Nat} (hG : w.heap[G]? = some (.cells us.toArray TE fr)) (hx : a.eval x = .slice (some ⟨G, 0, none⟩) 1 c) (hus : us.length = k) (hu : ∀ u ∈ us, u.oneCell' = true)
    (hbytes : (L.length + 1) * bytes ≤ 140737488355328) (hlen : L.length < 140737488355328) (hbase : base ≤ w.heap.size)
    (h : ∀ g cap w', OwnR w' base TE k (.slice (some ⟨g, 0, none⟩) (L.length + 1) cap) (L ++ [us]) → w.grownBy w' v.ownBlock → (v.ownBlock = some g ∨ w.heap.size ≤ g) → K (a.put o.dst (.slice (some ⟨g, 0, none⟩) (L.length + 1) cap)) w') :
    if Region.wanted o (yielded ops a.tmps) = true then Oper.wp Try.prog o a w K Q else E := by
  have hw : Region.wanted o (yielded ops a.tmps) = true := by simp [Region.wanted, hgd]
  rw [if_pos hw]
  exact wp_append_elem s x TS TE ho hTS z k bytes hinfo hz hk hown hs hG hx hus hu hbytes hlen hbase h

end Go.Proofs.Ytkemocbifancfaa
