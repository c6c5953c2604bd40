/-
  Lists of who waits are copied; the search by a function.
-/
import Derived.Test.YtnikeceeclfnpaaQMem
import Derived.Lib.SliceRun
namespace Go.Proofs.Ytnikeceeclfnpaa
open Go.RowKit
set_option maxRecDepth 100000

theorem info_wait : (Try.prog.info? 50).map (fun i => (i.zero, i.size, i.bytes)) = some (some (.agg #[.int .u32 0, .int .u8 0]), 2, 8) := by kernel_rfl
theorem wait_flat {w : World} {b o : Nat} {L : List WaitP} (h : WaitList w (some ⟨b, o, none⟩) L) : ∀ j u, (L.map waitCells).flatten[j]? = some u → w.cell? ⟨b, o + j, none⟩ = some u := by
  intro j u hu
  have hlen := flatten_len _ (wait_cells_len L)
  have hj : j < L.length * 2 := by
    have := (List.getElem?_eq_some_iff.1 hu).1
    rw [hlen, List.length_map] at this
    exact this
  have hi : j / 2 < L.length := by omega
  have hd : j = (j / 2) * 2 + j % 2 := by omega
  rw [hd, flatten_get _ (wait_cells_len L) (j / 2) (by simpa using hi) (j % 2) (by omega)] at hu
  obtain ⟨b', o', e, h0, h1⟩ := h (j / 2) hi
  cases e
  have h2 : j % 2 = 0 ∨ j % 2 = 1 := by omega
  rcases h2 with h2 | h2
  · rw [h2] at hu
    simp only [List.getElem_map, waitCells, List.getElem?_cons_zero] at hu
    rw [show o + j = o + j / 2 * 2 by omega, h0]
    exact hu
  · rw [h2] at hu
    simp only [List.getElem_map, waitCells, List.getElem?_cons_succ, List.getElem?_cons_zero] at hu
    rw [show o + j = o + j / 2 * 2 + 1 by omega, h1]
    exact hu
theorem wait_flat_one (L : List WaitP) : ∀ u ∈ (L.map waitCells).flatten, u.oneCell' = true := by
  intro u hu
  obtain ⟨c, hc, hu⟩ := List.mem_flatten.1 hu
  obtain ⟨x, _, rfl⟩ := List.mem_map.1 hc
  exact wait_one x u hu
/-- 'append(s, l...)' of a list of those who wait -/
theorem wpList_append_waits {ops : Array Oper} {rest : List Oper} {o : Oper} {a : Act} {w : World} {Q : Exit → Act → World → Prop} (hgd : o.guard = none) (s x : Operand)
    (ho : o.op = .call { callee := .builtin .append, args := #[s, x], argTypes := #[47, 47] })
    {base : Nat} {v : Value} {K M : List WaitP} (hown : OwnR w base 50 2 v (K.map waitCells)) (hs : a.eval s = v)
    {ao : Option Addr} {m c : Nat} (hx : a.eval x = .slice ao m c) (hM : WaitList w ao M) (hl : M.length = m) (hm : 0 < m) (hsm : K.length + m ≤ 1000000) (hbase : base ≤ w.heap.size)
    (h : ∀ g cap w', OwnR w' base 50 2 (.slice (some ⟨g, 0, none⟩) (K.length + m) cap) ((K ++ M).map waitCells) → w.grownBy w' v.ownBlock → (v.ownBlock = some g ∨ w.heap.size ≤ g) → wpList Try.prog ops Q rest (a.put o.dst (.slice (some ⟨g, 0, none⟩) (K.length + m) cap)) w') :
    wpList Try.prog ops Q (o :: rest) a w := by
  obtain ⟨i, hi, hz0, hz1, hz2⟩ := info_parts info_wait
  obtain ⟨b, q, e, _⟩ := hM 0 (by omega)
  subst e
  have hK := hown.2
  rw [List.length_map] at hK
  have hown1 : w.ownsRow base 50 2 v K.length (K.map waitCells).flatten := hK
  refine wpList_append_lies w hgd s x 47 ho base 50 i _ 2 8 Try.underlying47 hi hz0 hz1 hz2 rfl (by decide) v K.length _ hs hown1 ⟨b, q, none⟩ m c (M.map waitCells).flatten hx (by rw [flatten_len _ (wait_cells_len M), List.length_map, hl]) (fun j u hu => ?_) (wait_flat_one M) hm (by unfold maxLen; omega) (by omega) hbase w.heap.size rfl ?_
  · rw [Addr.add_lit]; exact wait_flat hM j u hu
  intro g cap w' h1 h2 h3 _
  refine h g cap w' ⟨wait_cells_len _, ?_⟩ h2 (h3.imp id (fun e => by omega))
  rw [List.length_map, List.length_append, List.map_append, List.flatten_append, hl]
  exact h1
def ClonePost (w : World) (L : List WaitP) (r : Ending) (w' : World) : Prop :=
  ∃ v, r = .returned v ∧ OwnR w' w.heap.size 50 2 v (L.map waitCells) ∧ w.grownBy w' none

set_option maxHeartbeats 1600000 in
theorem sl_clone (a : Option Addr) (n c : Nat) (L : List WaitP) (w : World) (hL : WaitList w a L) (hn : L.length = n) (hsm : n ≤ 1000000) :
    Calls Try.prog 40 #[.slice a n c] w (ClonePost w L) := by
  cases a with
  | none =>
    obtain rfl : L = [] := by
      cases L with
      | nil => rfl
      | cons x L => obtain ⟨b, o, e, _⟩ := hL 0 (by simp); cases e
    clear hL hn hsm
    have hnil := fun u => Go.Lib.run_eql_slice_nil (P := Try.prog) u 47 50 none n c 0 0 Try.underlying47
    go_enter Try.func40, Try.ntmps40
    go_wp2_with fail
    go_ret
    exact ⟨_, rfl, OwnR.nil _ _ _ _, World.grownBy.refl _ _⟩
  | some ad =>
    have HL := Lib.hid hL; have HN := Lib.hid hn; have HSM := Lib.hid hsm
    have hA := World.grownBy_alloc w (.cells #[] 50) none
    have ho0 : OwnR (w.alloc (.cells #[] 50)) w.heap.size 50 2 (.slice (some ⟨w.heap.size, 0, none⟩) 0 0) [] :=
      ⟨fun _ h => (by cases h), by simp, .inr ⟨w.heap.size, 0, #[], rfl, Nat.le_refl _, heap_alloc_new _ _, Nat.le_refl _, by simp [maxLen], rfl, rfl⟩⟩
    have HA := Lib.hid hA; have HO := Lib.hid ho0
    clear hL hn hsm hA ho0
    have hnil := fun u => Go.Lib.run_eql_slice_nil (P := Try.prog) u 47 50 (some ad) n c 0 0 Try.underlying47
    by_cases h0 : n = 0
    · subst h0
      obtain rfl : L = [] := List.length_eq_zero_iff.1 HN.out
      go_enter Try.func40, Try.ntmps40
      go_wp2_with fail
      go_ret
      exact ⟨_, rfl, HO.out, HA.out⟩
    · go_enter Try.func40, Try.ntmps40
      go_wp2_with (at_builtin; refine wpList_append_waits (o := ⟨some 7, _, _, _, _, _⟩) (K := []) rfl _ _ rfl HO.out rfl rfl (HL.out.grown HA.out) HN.out (by omega) (by simpa using HSM.out) HA.out.size ?_)
      intro g cap w' ho hg hk
      have hown := hg
      have hgN : w.grownBy w' none := grown_new HA.out (Nat.le_refl _) hg
      have HO' := Lib.hid ho; have HGN := Lib.hid hgN
      clear ho hg hown hgN hk
      go_wp2_with fail
      go_ret
      exact ⟨_, rfl, by simpa using HO'.out, HGN.out⟩

/-- the function by which an order's entries are struck -/
theorem quit_fn (x : WaitP) (q : Int) (B : Nat) (w : World) (hc : w.cell? ⟨B, 0, none⟩ = some (.int .u32 q)) :
    Calls Try.prog 45 #[.agg #[.int .u32 (x.1 : Int), .int .u8 (x.2.toNat : Int)], .pointer (some ⟨B, 0, none⟩)] w fun r w' => r = .returned (.bool ((x.1 : Int) == q)) ∧ w.grownBy w' none := by
  have hA := World.grownBy_alloc w (.cells #[.int .u32 (x.1 : Int), .int .u8 (x.2.toNat : Int)] 50) none
  have XL := (Box.new w 50 [.int .u32 (x.1 : Int), .int .u8 (x.2.toNat : Int)] w.heap.size rfl).look
  have hc' := grown_cell hA hc
  have HA := Lib.hid hA
  clear hA hc
  go_enter Try.func45, Try.ntmps45
  go_wp2_with fail
  go_ret
  exact ⟨rfl, HA.out⟩

end Go.Proofs.Ytnikeceeclfnpaa
