/-
  Items in memory; two lists of them.
-/
import Derived.Test.YtomnhgcjdnhijaaRdWr
import Derived.Test.YtomnhgcjdnhijaaElems
import Derived.Deep.Slices
import Derived.Lib.SmallJoins
namespace Go.Proofs.Ytomnhgcjdnhijaa
open Go.RowKit Go.ChangeShapes Go.WideShapes Go.ChangeAt Go.Deep
set_option maxRecDepth 100000

theorem keepA' {a b : World} {o : Obj} (h : a.grownBy b none) : a.grownBy (b.alloc o) none := growA _ _ h
theorem cell_later {w : World} {a : Addr} {v : Value} (h : w.cell? a = some v) : ∀ w', w.grownBy w' none → w'.cell? a = some v := fun _ hg => grown_cell hg h
/-- an item: what, how many -/
abbrev LineP := UInt8 × Int
def lineCells (x : LineP) : List Value := [.int .u8 (x.1.toNat : Int), .int .i64 x.2]
def LineAt (w : World) (a : Option Addr) (i : Nat) (x : LineP) : Prop :=
  ∃ b o, a = some ⟨b, o, none⟩ ∧ w.cell? ⟨b, o + i * 2, none⟩ = some (.int .u8 (x.1.toNat : Int)) ∧ w.cell? ⟨b, o + i * 2 + 1, none⟩ = some (.int .i64 x.2)
def LineList (w : World) (a : Option Addr) (L : List LineP) : Prop := ∀ i (h : i < L.length), LineAt w a i L[i]
theorem LineAt.grown {w w' : World} {a : Option Addr} {i : Nat} {x : LineP} (h : LineAt w a i x) (hg : w.grownBy w' none) : LineAt w' a i x := by
  obtain ⟨b, o, e, h0, h1⟩ := h
  exact ⟨b, o, e, grown_cell hg h0, grown_cell hg h1⟩
theorem LineList.grown {w w' : World} {a : Option Addr} {L : List LineP} (h : LineList w a L) (hg : w.grownBy w' none) : LineList w' a L := fun i hi => (h i hi).grown hg
theorem LineList.nil (w : World) (a : Option Addr) : LineList w a [] := fun i h => absurd h (by simp)

def LnRel (w : World) (L M : List LineP) (n : Nat) (i : Value) (wr : World) : Prop := ∃ k : Nat, k ≤ n ∧ i = .int .i64 k ∧ L.take k = M.take k ∧ w.grownBy wr none

set_option maxHeartbeats 1600000 in
theorem ref_sameLines (a : Option Addr) (n c : Nat) (L : List LineP) (a' : Option Addr) (n' c' : Nat) (M : List LineP) (w : World) (hL : LineList w a L) (hn : L.length = n) (hM : LineList w a' M) (hn' : M.length = n') (hm : n ≤ maxLen) :
    Calls Try.prog 51 #[.slice a n c, .slice a' n' c'] w fun r w' => r = .returned (.bool (decide (L = M))) ∧ w.grownBy w' none := by
  have HL := Lib.hid hL; have HM := Lib.hid hM; have HN := Lib.hid hn; have HN' := Lib.hid hn'
  have hmx : n ≤ 9223372036854775807 := hm
  clear hL hM hn hn' hm
  by_cases hne : n = n'
  · subst hne
    go_enter Try.func51, Try.ntmps51
    go_wp2_with fail
    go_loopw [5] (fun i wr => LnRel w L M n i wr) (fun i _ => n - (intOf i).toNat)
    case atStart => exact ⟨0, Nat.zero_le _, rfl, rfl, World.grownBy.refl _ _⟩
    case round =>
      obtain ⟨k, hk, rfl, heq, hg⟩ := hrel
      have HG := Lib.hid hg; have HEQ := Lib.hid heq
      clear hg heq
      by_cases hlt : k < n
      · obtain ⟨⟨x, q⟩, he⟩ : ∃ e, L[k]'(by rw [HN.out]; exact hlt) = e := ⟨_, rfl⟩
        obtain ⟨⟨x', q'⟩, he'⟩ : ∃ e, M[k]'(by rw [HN'.out]; exact hlt) = e := ⟨_, rfl⟩
        obtain ⟨b, o, rfl, h0, h1⟩ := HL.out k (by rw [HN.out]; exact hlt)
        obtain ⟨b', o', rfl, h0', h1'⟩ := HM.out k (by rw [HN'.out]; exact hlt)
        rw [he] at h0 h1
        rw [he'] at h0' h1'
        have d0 := cell_later (grown_cell HG.out h0)
        have d1 := cell_later (grown_cell HG.out h1)
        have f0 := cell_later (grown_cell HG.out h0')
        have f1 := cell_later (grown_cell HG.out h1')
        have HE := Lib.hid he; have HE' := Lib.hid he'
        have i0 : (0 : Int) ≤ (k : Int) := by omega
        have i1 : (k : Int) < (n : Int) := by omega
        have hS0 : wr.grownBy wr.drew none := grown_drew1 _
        have hS1 : wr.grownBy wr none := World.grownBy.refl _ _
        simp only at d0 d1 f0 f1
        clear h0 h1 h0' h1' he he'
        by_cases hx : (x, q) = (x', q')
        · cases hx
          go_wp2_with fail
          go_region_held_law (fun w' => wr.grownBy w' none) (with_reducible (first | assumption | exact keepA' (by assumption))) (fail)
          all_goals (
            go_wp2_with fail
            go_roundw)
          all_goals first
            | (exact ⟨k + 1, by omega, by go_num, by rw [List.take_succ_eq_append_getElem (by rw [HN.out]; exact hlt), List.take_succ_eq_append_getElem (by rw [HN'.out]; exact hlt), HEQ.out, HE.out, HE'.out], grown_trans HG.out (by first | assumption | exact grown_drew1 _)⟩)
            | (simp [intOf]; omega)
        · have hfalse : ((x.toNat : Int) == (x'.toNat : Int)) = false ∨ (((x.toNat : Int) == (x'.toNat : Int)) = true ∧ (q == q') = false) := by
            by_cases h1 : x = x'
            · subst h1
              exact .inr ⟨by simp, by simpa using (fun h => hx (by rw [h]))⟩
            · refine .inl ?_
              rw [beq_eq_false_iff_ne]
              intro h
              exact h1 (UInt8.toNat_inj.1 (by omega))
          have HX := Lib.hid hx
          clear hx
          rcases hfalse with hf | ⟨hf, hf2⟩
          all_goals (
            go_wp2_with fail
            go_region_held_law (fun w' => wr.grownBy w' none) (with_reducible (first | assumption | exact keepA' (by assumption))) (fail)
            all_goals (
              go_wp2_with fail
              go_ret
              refine ⟨ret_bool ?_, grown_trans HG.out (by first | assumption | exact grown_drew1 _)⟩
              symm
              rw [decide_eq_false_iff_not]
              intro h
              subst h
              apply HX.out
              rw [← HE.out, ← HE'.out]))
      · obtain rfl : k = n := by omega
        go_wp2_with fail
        go_ret
        refine ⟨ret_bool ?_, HG.out⟩
        symm
        rw [decide_eq_true_eq]
        have := HEQ.out
        rwa [List.take_of_length_le (by rw [HN.out]; exact Nat.le_refl _), List.take_of_length_le (by rw [HN'.out]; exact Nat.le_refl _)] at this
  · have hne1 : ((n : Int) != (n' : Int)) = true := by simp; omega
    have HNE := Lib.hid hne
    clear hne
    go_enter Try.func51, Try.ntmps51
    go_wp2_with fail
    go_ret
    refine ⟨ret_bool ?_, World.grownBy.refl _ _⟩
    symm
    rw [decide_eq_false_iff_not]
    intro h
    subst h
    exact HNE.out (HN.out.symm.trans HN'.out)

set_option maxHeartbeats 1600000 in
theorem lines_equal (a : Option Addr) (n c : Nat) (L : List LineP) (a' : Option Addr) (n' c' : Nat) (M : List LineP) (w : World) (hL : LineList w a L) (hn : L.length = n) (hM : LineList w a' M) (hn' : M.length = n') (hm : n ≤ maxLen) :
    Calls Try.prog 57 #[.slice a n c, .slice a' n' c'] w fun r w' => r = .returned (.bool (decide (L = M))) ∧ w.grownBy w' none := by
  have HL := Lib.hid hL; have HM := Lib.hid hM; have HN := Lib.hid hn; have HN' := Lib.hid hn'
  have hmx : n ≤ 9223372036854775807 := hm
  clear hL hM hn hn' hm
  by_cases hne : n = n'
  · subst hne
    go_enter Try.func57, Try.ntmps57
    go_wp2_with fail
    go_loopw [13] (fun i wr => LnRel w L M n i wr) (fun i _ => n - (intOf i).toNat)
    case atStart => exact ⟨0, Nat.zero_le _, rfl, rfl, World.grownBy.refl _ _⟩
    case round =>
      obtain ⟨k, hk, rfl, heq, hg⟩ := hrel
      have HG := Lib.hid hg; have HEQ := Lib.hid heq
      clear hg heq
      by_cases hlt : k < n
      · obtain ⟨⟨x, q⟩, he⟩ : ∃ e, L[k]'(by rw [HN.out]; exact hlt) = e := ⟨_, rfl⟩
        obtain ⟨⟨x', q'⟩, he'⟩ : ∃ e, M[k]'(by rw [HN'.out]; exact hlt) = e := ⟨_, rfl⟩
        obtain ⟨b, o, rfl, h0, h1⟩ := HL.out k (by rw [HN.out]; exact hlt)
        obtain ⟨b', o', rfl, h0', h1'⟩ := HM.out k (by rw [HN'.out]; exact hlt)
        rw [he] at h0 h1
        rw [he'] at h0' h1'
        have d0 := cell_later (grown_cell HG.out h0)
        have d1 := cell_later (grown_cell HG.out h1)
        have f0 := cell_later (grown_cell HG.out h0')
        have f1 := cell_later (grown_cell HG.out h1')
        have HE := Lib.hid he; have HE' := Lib.hid he'
        have i0 : (0 : Int) ≤ (k : Int) := by omega
        have i1 : (k : Int) < (n : Int) := by omega
        have hS0 : wr.grownBy wr.drew none := grown_drew1 _
        have hS1 : wr.grownBy wr none := World.grownBy.refl _ _
        simp only at d0 d1 f0 f1
        clear h0 h1 h0' h1' he he'
        by_cases hx : (x, q) = (x', q')
        · cases hx
          go_wp2_with fail
          go_region_held_law (fun w' => wr.grownBy w' none) (with_reducible (first | assumption | exact keepA' (by assumption))) (fail)
          all_goals (
            go_wp2_with fail
            go_roundw)
          all_goals first
            | (exact ⟨k + 1, by omega, by go_num, by rw [List.take_succ_eq_append_getElem (by rw [HN.out]; exact hlt), List.take_succ_eq_append_getElem (by rw [HN'.out]; exact hlt), HEQ.out, HE.out, HE'.out], grown_trans HG.out (by first | assumption | exact grown_drew1 _)⟩)
            | (simp [intOf]; omega)
        · have hfalse : ((x.toNat : Int) == (x'.toNat : Int)) = false ∨ (((x.toNat : Int) == (x'.toNat : Int)) = true ∧ (q == q') = false) := by
            by_cases h1 : x = x'
            · subst h1
              exact .inr ⟨by simp, by simpa using (fun h => hx (by rw [h]))⟩
            · refine .inl ?_
              rw [beq_eq_false_iff_ne]
              intro h
              exact h1 (UInt8.toNat_inj.1 (by omega))
          have HX := Lib.hid hx
          clear hx
          rcases hfalse with hf | ⟨hf, hf2⟩
          all_goals (
            go_wp2_with fail
            go_region_held_law (fun w' => wr.grownBy w' none) (with_reducible (first | assumption | exact keepA' (by assumption))) (fail)
            all_goals (
              go_wp2_with fail
              go_ret
              refine ⟨ret_bool ?_, grown_trans HG.out (by first | assumption | exact grown_drew1 _)⟩
              symm
              rw [decide_eq_false_iff_not]
              intro h
              subst h
              apply HX.out
              rw [← HE.out, ← HE'.out]))
      · obtain rfl : k = n := by omega
        go_wp2_with fail
        go_ret
        refine ⟨ret_bool ?_, HG.out⟩
        symm
        rw [decide_eq_true_eq]
        have := HEQ.out
        rwa [List.take_of_length_le (by rw [HN.out]; exact Nat.le_refl _), List.take_of_length_le (by rw [HN'.out]; exact Nat.le_refl _)] at this
  · have hne1 : ((n : Int) != (n' : Int)) = true := by simp; omega
    have HNE := Lib.hid hne
    clear hne
    go_enter Try.func57, Try.ntmps57
    go_wp2_with fail
    go_ret
    refine ⟨ret_bool ?_, World.grownBy.refl _ _⟩
    symm
    rw [decide_eq_false_iff_not]
    intro h
    subst h
    exact HNE.out (HN.out.symm.trans HN'.out)

end Go.Proofs.Ytomnhgcjdnhijaa
