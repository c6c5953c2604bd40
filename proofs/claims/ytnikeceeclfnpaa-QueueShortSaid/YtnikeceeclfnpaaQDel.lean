/-
  Who waits: one is taken out.
-/
import Derived.Test.YtnikeceeclfnpaaQClone
import Derived.Deep.RegionLaw
namespace Go.Proofs.Ytnikeceeclfnpaa
open Go.RowKit
set_option maxRecDepth 100000

/-- n cells of the block g may be written -/
def RowW (w : World) (g n : Nat) : Prop := ∀ j, j < n → (w.cell? ⟨g, j, none⟩).isSome = true ∧ w.frozen? ⟨g, j, none⟩ = false
theorem RowW.set {w : World} {g n : Nat} (h : RowW w g n) (o : Nat) (vs : List Value) (ho : o + vs.length ≤ n) : RowW (w.setCells g o vs) g n := by
  intro j hj
  refine ⟨?_, by rw [World.frozen?_setCells]; exact (h j hj).2⟩
  by_cases h1 : o ≤ j ∧ j < o + vs.length
  · have := World.cell?_setCells_in g vs o w (fun i hi => (h (o + i) (by omega)).1) (j - o) (by omega)
    rw [show o + (j - o) = j by omega] at this
    rw [this]; rfl
  · rw [World.cell?_setCells_out g vs o w ⟨g, j, none⟩ (fun _ _ => by simp only; omega)]
    exact (h j hj).1
theorem RowW.grown {w w' : World} {g n : Nat} (h : RowW w g n) (hg : w.grownBy w' none) : RowW w' g n := by
  intro j hj
  obtain ⟨u, hu⟩ := Option.isSome_iff_exists.1 (h j hj).1
  have hb := hg.block g (World.block_lt_of_cell? w _ hu) (by simp)
  refine ⟨by rw [World.cell?_of_block (a := ⟨g, j, none⟩) hb]; exact (h j hj).1, ?_⟩
  rw [hg.frozen_far ⟨g, j, none⟩ (World.block_lt_of_cell? w _ hu) (by simp)]
  exact (h j hj).2
theorem grown_setCells (g : Nat) : ∀ (vs : List Value) (o : Nat) (w : World), w.grownBy (w.setCells g o vs) (some g)
  | [], _, _ => World.grownBy.refl _ _
  | v :: r, o, w => grown_same (grown_setCell w g o v) (grown_setCells g r (o + 1) _)
theorem OwnR.row {w : World} {B : Nat} {v : Value} {L : List WaitP} (h : OwnR w B 50 2 v (L.map waitCells)) (hne : L ≠ []) :
    ∃ g cap, v = .slice (some ⟨g, 0, none⟩) L.length cap ∧ B ≤ g ∧ L.length ≤ cap ∧ cap ≤ maxLen ∧ RowW w g (cap * 2) ∧ WaitList w (some ⟨g, 0, none⟩) L := by
  have h2 := h.2.2
  rcases h2 with ⟨_, h0⟩ | ⟨g, cap, cur, hv, hb, hg, hn, hm, hs, ht⟩
  · rw [List.length_map, List.length_eq_zero_iff] at h0
    exact absurd h0 hne
  · rw [List.length_map] at hv hn
    subst hv
    refine ⟨g, cap, rfl, hb, hn, hm, fun j hj => ⟨?_, ?_⟩, ?_⟩
    · rw [cell_of_row w g j cur _ (0, 0) hg]
      simp only [Array.getElem?_eq_getElem (show j < cur.size by omega)]
      rfl
    · have hB : Box w g 50 cur.toList := by unfold Box; simpa using hg
      exact hB.free j
    · have h' : OwnR w B 50 2 (.slice (some ⟨g, 0, none⟩) L.length cap) (L.map waitCells) := h
      exact WaitList.of_elems h'.elems
theorem wait_zero : ∀ n : Nat, ∀ u ∈ (Builtin.zeroCells #[.int .u32 0, .int .u8 0] n).toList, u.oneCell' = true := by
  intro n u hu
  simp only [Builtin.zeroCells, Array.toList_map, List.mem_map] at hu
  obtain ⟨i, _, rfl⟩ := hu
  have : i % 2 = 0 ∨ i % 2 = 1 := by omega
  rcases this with h | h <;> (simp [h]; rfl)
theorem run_clear_waits (w : World) (b o n c : Nat) (hn : 0 < n) (hr : ∀ j, j < n * 2 → (w.cell? ⟨b, o + j, none⟩).isSome = true ∧ w.frozen? ⟨b, o + j, none⟩ = false) :
    ∃ vs : List Value, vs.length = n * 2 ∧ ∀ ty, (Builtin.clear_ #[47] ty #[.slice (some ⟨b, o, none⟩) n c]).run Try.prog w = .ok (.tuple #[]) (w.setCells b o vs) := by
  have hl : (Builtin.zeroCells #[.int .u32 0, .int .u8 0] n).toList.length = n * 2 := by simp [Builtin.zeroCells]
  have hst := run_storeCells_cells (P := Try.prog) b o (Builtin.zeroCells #[.int .u32 0, .int .u8 0] n).toList 0 w (fun j hj => (hr j (by omega)).1) (fun j hj => (hr j (by omega)).2) (wait_zero n)
  simp only [Nat.add_zero] at hst
  refine ⟨_, hl, fun ty => ?_⟩
  obtain ⟨m, rfl⟩ : ∃ m, n = m + 1 := ⟨n - 1, by omega⟩
  have hz : ∀ u, (zeroValue 50).run Try.prog u = .ok (.agg #[.int .u32 0, .int .u8 0]) u := Try.zeroValue50
  simp [Builtin.clear_, run_underlying Try.underlying47, hz, Value.cells]
  rw [hst]
  rfl
set_option maxHeartbeats 3200000 in
theorem sl_delete (g n cap at' j : Nat) (L : List WaitP) (w : World) (hrow : RowW w g (cap * 2)) (hL : WaitList w (some ⟨g, 0, none⟩) L) (hn : L.length = n) (hc : n ≤ cap) (_hm : cap ≤ maxLen) (hat : at' < n) (hj : j = at' + 1) :
    Calls Try.prog 43 #[.slice (some ⟨g, 0, none⟩) n cap, .int .i64 at', .int .i64 j] w fun r w' => r = .returned (.slice (some ⟨g, 0, none⟩) (n - 1) cap) ∧ WaitList w' (some ⟨g, 0, none⟩) (L.eraseIdx at') ∧ w.grownBy w' (some g) := by
  obtain ⟨i0, hi0, hz0, hz1, hz2⟩ := info_parts info_wait
  obtain ⟨news, hnews⟩ : ∃ news, news = ((L.drop j).map waitCells).flatten := ⟨_, rfl⟩
  have hlen : news.length = (n - j) * 2 := by rw [hnews, flatten_len _ (wait_cells_len _), List.length_map, List.length_drop, hn]
  obtain ⟨A, hA, hsrc⟩ : ∃ A : Addr, (if cap = j then some (⟨g, 0, none⟩ : Addr) else some ⟨g, j * 2, none⟩) = some A ∧ Hid (∀ t u, news[t]? = some u → w.drew.cell? (A.add t) = some u) := by
    by_cases h : cap = j
    · refine ⟨⟨g, 0, none⟩, by simp [h], fun t u hu => ?_⟩
      have h0 : news.length = 0 := by rw [hlen]; omega
      rw [List.length_eq_zero_iff.1 h0] at hu
      simp at hu
    · refine ⟨⟨g, j * 2, none⟩, by simp [h], fun t u hu => ?_⟩
      have hd : WaitList w (some ⟨g, j * 2, none⟩) (L.drop j) := by
        intro i hi
        rw [List.length_drop] at hi
        obtain ⟨b, o, e, h0, h1⟩ := hL (j + i) (by omega)
        cases e
        refine ⟨_, _, rfl, ?_, ?_⟩
        · rw [List.getElem_drop, show j * 2 + i * 2 = 0 + (j + i) * 2 by omega]; exact h0
        · rw [List.getElem_drop, show j * 2 + i * 2 + 1 = 0 + (j + i) * 2 + 1 by omega]; exact h1
      rw [hnews] at hu
      rw [Addr.add_lit]
      exact wait_flat hd t u hu
  have s2 : Hid (∀ u ∈ news, u.oneCell' = true) := by rw [hnews]; exact wait_flat_one _
  have s3 : Hid (∀ t, t < news.length → (w.drew.cell? ⟨g, 0 + at' * 2 + t, none⟩).isSome = true ∧ w.drew.frozen? ⟨g, 0 + at' * 2 + t, none⟩ = false) := by
    intro t ht
    rw [hlen] at ht
    exact hrow (0 + at' * 2 + t) (by omega)
  have s1 : Hid (news.length = (n - j) * 2) := hlen
  obtain ⟨W1, hW1⟩ : ∃ W1, W1 = w.drew.setCells g (0 + at' * 2) news := ⟨_, rfl⟩
  have hrow1 : RowW W1 g (cap * 2) := by rw [hW1]; exact RowW.set (show RowW w.drew g (cap * 2) from hrow) _ _ (by rw [hlen]; omega)
  obtain ⟨vs, hvl, hcl⟩ := run_clear_waits W1 g ((n - 1) * 2) (n - (n - 1)) (cap - (n - 1)) (by omega) (fun t ht => hrow1 _ (by omega))
  have hend : WaitList (W1.setCells g ((n - 1) * 2) vs) (some ⟨g, 0, none⟩) (L.eraseIdx at') := by
    have hcell : ∀ p, p < (n - 1) * 2 → (W1.setCells g ((n - 1) * 2) vs).cell? ⟨g, p, none⟩ = W1.cell? ⟨g, p, none⟩ := fun p hp => World.cell?_setCells_out g vs _ W1 ⟨g, p, none⟩ (fun _ _ => .inl hp)
    have hlow : ∀ p, p < at' * 2 → W1.cell? ⟨g, p, none⟩ = w.cell? ⟨g, p, none⟩ := fun p hp => by rw [hW1]; exact World.cell?_setCells_out g news _ w.drew ⟨g, p, none⟩ (fun _ _ => .inl (by simp only; omega))
    have hhigh : ∀ t u, news[t]? = some u → W1.cell? ⟨g, 0 + at' * 2 + t, none⟩ = some u := fun t u hu => by
      obtain ⟨ht, e⟩ := List.getElem?_eq_some_iff.1 hu
      rw [hW1, World.cell?_setCells_in g news _ w.drew (fun i hi => (s3 i hi).1) t ht, e]
    intro i hi
    rw [List.length_eraseIdx, if_pos (by omega)] at hi
    rw [List.getElem_eraseIdx]
    by_cases h : i < at'
    · rw [dif_pos h]
      obtain ⟨b, o, e, h0, h1⟩ := hL i (by omega)
      cases e
      refine ⟨_, _, rfl, ?_, ?_⟩
      · rw [hcell _ (by omega), hlow _ (by omega)]; exact h0
      · rw [hcell _ (by omega), hlow _ (by omega)]; exact h1
    · rw [dif_neg h]
      have hf : ∀ r, r < 2 → news[(i - at') * 2 + r]? = (waitCells L[i + 1])[r]? := by
        intro r hr
        rw [hnews, flatten_get _ (wait_cells_len _) (i - at') (by simp; omega) r hr]
        simp only [List.getElem_map, List.getElem_drop]
        congr 3
        · omega
      have e0 := hhigh _ _ ((hf 0 (by decide)).trans rfl)
      have e1 := hhigh _ _ ((hf 1 (by decide)).trans rfl)
      refine ⟨_, _, rfl, ?_, ?_⟩
      · rw [hcell _ (by omega), show 0 + i * 2 = 0 + at' * 2 + ((i - at') * 2 + 0) by omega]; exact e0
      · rw [hcell _ (by omega), show 0 + i * 2 + 1 = 0 + at' * 2 + ((i - at') * 2 + 1) by omega]; exact e1
  have hgr : w.grownBy (W1.setCells g ((n - 1) * 2) vs) (some g) := by
    rw [hW1]
    exact grown_same (grown_same (grown_drew (World.grownBy.refl w (some g))) (grown_setCells g _ _ _)) (grown_setCells g _ _ _)
  have HE := Lib.hid hend; have HG := Lib.hid hgr; have HW := Lib.hid hW1
  have hne : ((at' : Int) == (j : Int)) = false := by rw [beq_eq_false_iff_ne]; omega
  have hic : at' ≤ cap := by omega
  have hjc : j ≤ cap := by omega
  have i0' : (0 : Int) ≤ (at' : Int) := by omega
  have i1' : (at' : Int) ≤ (j : Int) := by omega
  have i2' : (j : Int) ≤ (n : Int) := by omega
  have i3' : (n : Int) ≤ (cap : Int) := by omega
  have hsum : at' + (n - j) = n - 1 := by omega
  have HSUM := Lib.hid hsum; have HJ := Lib.hid hj
  clear hj hrow hL hnews hlen hW1 hrow1 hend hgr hn hsum
  go_enter Try.func43, Try.ntmps43
  go_wp2_with fail
  go_region_law (refine step_append_room rfl (.tmp 22) (.tmp 25) 47 rfl 50 i0 2 Try.underlying47 hi0 hz1 g 0 at' cap (by simp [Act.eval, Act.put]) A (n - j) (cap - j) news (by simp [Act.eval, Act.put]) s1.out hsrc.out s2.out (by omega) s3.out ?_; rw [← HW.out, HSUM.out])
  go_wp2_with fail
  go_ret
  exact ⟨rfl, HE.out, HG.out⟩

end Go.Proofs.Ytnikeceeclfnpaa
