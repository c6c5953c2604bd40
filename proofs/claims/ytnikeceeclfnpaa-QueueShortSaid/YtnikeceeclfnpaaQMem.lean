/-
  Who waits: lists in memory; where someone stands in a list.
-/
import Derived.Test.YtnikeceeclfnpaaElems
import Derived.Deep.Slices
import Derived.Lib.SmallJoins
namespace Go.Proofs.Ytnikeceeclfnpaa
open Go.RowKit Go.ChangeShapes Go.WideShapes Go.ChangeAt Go.Deep
set_option maxRecDepth 100000

theorem ret_bool {a b : Bool} (h : a = b) : Ending.returned (.bool a) = .returned (.bool b) := by rw [h]
theorem ret_i64 {a b : Int} (h : a = b) : Ending.returned (.int .i64 a) = .returned (.int .i64 b) := by rw [h]
theorem growA {w : World} : ∀ u o, w.grownBy u none → w.grownBy (u.alloc o) none := fun _ _ h => grown_trans h (World.grownBy_alloc _ _ none)
theorem growT {a b c : World} (k : b.grownBy c none) (h : a.grownBy b none) : a.grownBy c none := grown_trans h k
theorem keepA' {a b : World} {o : Obj} (h : a.grownBy b none) : a.grownBy (b.alloc o) none := growA _ _ h
theorem cell_later {w : World} {a : Addr} {v : Value} (h : w.cell? a = some v) : ∀ w', w.grownBy w' none → w'.cell? a = some v := fun _ hg => grown_cell hg h
theorem look_later {w : World} {g : Nat} {T : TypeId} {cs : List Value} (hb : Box w g T cs) : ∀ w', w.grownBy w' none → ∀ i, w'.cell? ⟨g, i, none⟩ = cs[i]? := fun _ hg => (hb.grown hg).look

/-- who waits: an order, for which article -/
abbrev WaitP := Nat × UInt8
def waitCells (x : WaitP) : List Value := [.int .u32 (x.1 : Int), .int .u8 (x.2.toNat : Int)]
def waitV (x : WaitP) : Value := .agg #[.int .u32 (x.1 : Int), .int .u8 (x.2.toNat : Int)]
def WaitAt (w : World) (a : Option Addr) (i : Nat) (x : WaitP) : Prop :=
  ∃ b o, a = some ⟨b, o, none⟩ ∧ w.cell? ⟨b, o + i * 2, none⟩ = some (.int .u32 (x.1 : Int)) ∧ w.cell? ⟨b, o + i * 2 + 1, none⟩ = some (.int .u8 (x.2.toNat : Int))
def WaitList (w : World) (a : Option Addr) (L : List WaitP) : Prop := ∀ i (h : i < L.length), WaitAt w a i L[i]
theorem WaitAt.grown {w w' : World} {a : Option Addr} {i : Nat} {x : WaitP} (h : WaitAt w a i x) (hg : w.grownBy w' none) : WaitAt w' a i x := by
  obtain ⟨b, o, e, h0, h1⟩ := h
  exact ⟨b, o, e, grown_cell hg h0, grown_cell hg h1⟩
theorem WaitList.grown {w w' : World} {a : Option Addr} {L : List WaitP} (h : WaitList w a L) (hg : w.grownBy w' none) : WaitList w' a L := fun i hi => (h i hi).grown hg
theorem WaitList.nil (w : World) (a : Option Addr) : WaitList w a [] := fun i h => absurd h (by simp)
theorem WaitList.take {w : World} {a : Option Addr} {L : List WaitP} (h : WaitList w a L) (k : Nat) : WaitList w a (L.take k) := fun i hi => by
  rw [List.getElem_take]
  exact h i (by rw [List.length_take] at hi; omega)
theorem wait_cells_len (L : List WaitP) : ∀ c ∈ L.map waitCells, c.length = 2 := by
  intro c hc
  obtain ⟨x, _, rfl⟩ := List.mem_map.1 hc
  rfl
theorem wait_one (x : WaitP) : ∀ u ∈ waitCells x, u.oneCell' = true := by
  intro u hu
  simp only [waitCells, List.mem_cons, List.not_mem_nil, or_false] at hu
  rcases hu with rfl | rfl <;> rfl
theorem WaitList.of_elems {w : World} {a : Option Addr} {L : List WaitP} (h : Elems w 2 a (L.map waitCells)) : WaitList w a L := by
  intro i hi
  obtain ⟨b, o, e, hc⟩ := h i (by simpa using hi)
  refine ⟨b, o, e, ?_, ?_⟩
  · have := hc 0 (by decide)
    simpa [waitCells] using this
  · have := hc 1 (by decide)
    simpa [waitCells] using this
/-- where the first one is that is x; -1: nowhere -/
def idxW (L : List WaitP) (x : WaitP) : Int := if x ∈ L then (L.idxOf x : Int) else -1
theorem idxOf_first {L : List WaitP} {x : WaitP} {k : Nat} (hk : k < L.length) (he : L[k] = x) (hno : x ∉ L.take k) : L.idxOf x = k := by
  conv => lhs; rw [← List.take_append_drop k L]
  rw [List.idxOf_append, if_neg hno, List.drop_eq_getElem_cons hk, he, List.idxOf_cons_self, List.length_take]
  omega
theorem idxW_hit {L : List WaitP} {x : WaitP} {k : Nat} (hk : k < L.length) (he : L[k] = x) (hno : x ∉ L.take k) : idxW L x = k := by
  unfold idxW
  rw [if_pos (by rw [← he]; exact List.getElem_mem hk), idxOf_first hk he hno]
theorem idxW_none {L : List WaitP} {x : WaitP} (h : x ∉ L) : idxW L x = -1 := by unfold idxW; rw [if_neg h]
theorem take_snoc_not {L : List WaitP} {x : WaitP} {k : Nat} (hk : k < L.length) (he : L[k] ≠ x) (hno : x ∉ L.take k) : x ∉ L.take (k + 1) := by
  rw [List.take_succ_eq_append_getElem hk]
  intro h
  rcases List.mem_append.1 h with h | h
  · exact hno h
  · rw [List.mem_singleton] at h
    exact he h.symm
/-- two that differ, as the walk tests it -/
theorem wait_ne {x y : WaitP} (h : x ≠ y) : ((x.1 : Int) == (y.1 : Int)) = false ∨ (((x.1 : Int) == (y.1 : Int)) = true ∧ ((x.2.toNat : Int) == (y.2.toNat : Int)) = false) := by
  by_cases h1 : x.1 = y.1
  · refine .inr ⟨by rw [h1]; simp, ?_⟩
    rw [beq_eq_false_iff_ne]
    intro h2
    exact h (Prod.ext h1 (UInt8.toNat_inj.1 (by omega)))
  · refine .inl ?_
    rw [beq_eq_false_iff_ne]
    omega
def IdxRel (w : World) (L : List WaitP) (x : WaitP) (n : Nat) (i : Value) (wr : World) : Prop := ∃ k : Nat, k ≤ n ∧ i = .int .i64 k ∧ x ∉ L.take k ∧ w.grownBy wr none

set_option maxHeartbeats 1600000 in
theorem sl_index (a : Option Addr) (n c : Nat) (L : List WaitP) (x : WaitP) (w : World) (hL : WaitList w a L) (hn : L.length = n) (hm : n ≤ maxLen) :
    Calls Try.prog 42 #[.slice a n c, .agg #[.int .u32 (x.1 : Int), .int .u8 (x.2.toNat : Int)]] w fun r w' => r = .returned (.int .i64 (idxW L x)) ∧ w.grownBy w' none := by
  have HL := Lib.hid hL; have HN := Lib.hid hn
  have hmx : n ≤ 9223372036854775807 := hm
  have XL := look_later (Box.new w 50 [.int .u32 (x.1 : Int), .int .u8 (x.2.toNat : Int)] w.heap.size rfl)
  clear hL hn hm
  go_enter Try.func42, Try.ntmps42
  go_wp2_with fail
  have HW := Lib.hid (World.grownBy_alloc w (.cells #[.int .u32 (x.1 : Int), .int .u8 (x.2.toNat : Int)] 50) none)
  generalize w.alloc (.cells #[.int .u32 (x.1 : Int), .int .u8 (x.2.toNat : Int)] 50) = w1 at *
  go_loopw [8] (fun i wr => IdxRel w1 L x n i wr) (fun i _ => n - (intOf i).toNat)
  case atStart => exact ⟨0, Nat.zero_le _, rfl, by simp, World.grownBy.refl _ _⟩
  case round =>
    obtain ⟨k, hk, rfl, hno, hg⟩ := hrel
    have HG := Lib.hid hg; have HNO := Lib.hid hno
    have YL := fun w' (h : wr.grownBy w' none) => XL w' (growT h hg)
    clear hg hno
    by_cases hlt : k < n
    · have hkl : k < L.length := by rw [HN.out]; exact hlt
      obtain ⟨y, he⟩ : ∃ e, L[k]'hkl = e := ⟨_, rfl⟩
      obtain ⟨b, o, rfl, h0, h1⟩ := HL.out k hkl
      rw [he] at h0 h1
      have d0 := cell_later (grown_cell HG.out (grown_cell HW.out h0))
      have d1 := cell_later (grown_cell HG.out (grown_cell HW.out h1))
      have HE := Lib.hid he
      have i0 : (0 : Int) ≤ (k : Int) := by omega
      have i1 : (k : Int) < (n : Int) := by omega
      have hS0 : wr.grownBy wr.drew none := grown_drew1 _
      have hS1 : wr.grownBy wr none := World.grownBy.refl _ _
      clear h0 h1 he XL
      by_cases hx : x = y
      · subst hx
        go_wp2_with fail
        go_region_held_law (fun w' => wr.grownBy w' none) (with_reducible (first | assumption | exact keepA' (by assumption))) (fail)
        all_goals (
          go_wp2_with fail
          go_ret
          exact ⟨ret_i64 (idxW_hit (HN.out ▸ hlt) HE.out HNO.out).symm, grown_trans HW.out (grown_trans HG.out (by first | assumption | exact grown_drew1 _))⟩)
      · have HX := Lib.hid hx
        have hf := wait_ne hx
        clear hx
        rcases hf with hf | ⟨hf, hf2⟩
        all_goals (
          go_wp2_with fail
          go_region_held_law (fun w' => wr.grownBy w' none) (with_reducible (first | assumption | exact keepA' (by assumption))) (fail)
          all_goals (
            go_wp2_with fail
            go_roundw)
          all_goals first
            | (exact ⟨k + 1, by omega, by go_num, take_snoc_not (HN.out ▸ hlt) (by rw [HE.out]; exact fun h => HX.out h.symm) HNO.out, grown_trans HG.out (by first | assumption | exact grown_drew1 _)⟩)
            | (simp [intOf]; omega))
    · obtain rfl : k = n := by omega
      go_wp2_with fail
      go_ret
      refine ⟨ret_i64 (idxW_none ?_).symm, grown_trans HW.out HG.out⟩
      have := HNO.out
      rwa [List.take_of_length_le (by rw [HN.out]; exact Nat.le_refl _)] at this
theorem sl_contains (a : Option Addr) (n c : Nat) (L : List WaitP) (x : WaitP) (w : World) (hL : WaitList w a L) (hn : L.length = n) (hm : n ≤ maxLen) :
    Calls Try.prog 39 #[.slice a n c, .agg #[.int .u32 (x.1 : Int), .int .u8 (x.2.toNat : Int)]] w fun r w' => r = .returned (.bool (decide (x ∈ L))) ∧ w.grownBy w' none := by
  have hA := World.grownBy_alloc w (.cells #[.int .u32 (x.1 : Int), .int .u8 (x.2.toNat : Int)] 50) none
  have HI := Lib.hid (sl_index a n c L x _ (hL.grown hA) hn hm)
  have HA := Lib.hid hA
  have XL := (Box.new w 50 [.int .u32 (x.1 : Int), .int .u8 (x.2.toNat : Int)] w.heap.size rfl).look
  obtain ⟨z, hz⟩ : ∃ z, idxW L x = z := ⟨_, rfl⟩
  rw [hz] at HI
  have HZ := Lib.hid hz
  clear hL hn hm hA hz
  go_enter Try.func39, Try.ntmps39
  go_wp2_with fail
  refine HI.out.mono ?_
  rintro r w1 ⟨rfl, hg⟩
  have HG := Lib.hid (grown_trans HA.out hg)
  clear hg XL
  go_wp2_with fail
  go_ret
  refine ⟨ret_bool ?_, HG.out⟩
  rw [← HZ.out]
  unfold idxW
  by_cases h : x ∈ L
  · rw [if_pos h]; simp [h]
  · rw [if_neg h]; simp [h]

end Go.Proofs.Ytnikeceeclfnpaa
