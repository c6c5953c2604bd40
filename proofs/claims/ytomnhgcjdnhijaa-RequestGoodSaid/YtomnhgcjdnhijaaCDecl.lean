/-
  What a configuration says of a key.
-/
import Derived.Test.YtomnhgcjdnhijaaCRef
namespace Go.Proofs.Ytomnhgcjdnhijaa
open Go.RowKit
set_option maxRecDepth 100000

def declL (d : DeclP) : List Value := [.int .u8 (d.k.1.toNat : Int), .int .u8 (d.k.2.1.toNat : Int), .int .u8 (d.k.2.2.toNat : Int), .int .i64 d.lo, .int .i64 d.ini, .int .i64 d.hi]
def DeclAt (w : World) (a : Option Addr) (i : Nat) (d : DeclP) : Prop :=
  ∃ b o, a = some ⟨b, o, none⟩ ∧ w.cell? ⟨b, o + i * 6, none⟩ = some (.int .u8 (d.k.1.toNat : Int)) ∧ w.cell? ⟨b, o + i * 6 + 1, none⟩ = some (.int .u8 (d.k.2.1.toNat : Int)) ∧ w.cell? ⟨b, o + i * 6 + 2, none⟩ = some (.int .u8 (d.k.2.2.toNat : Int)) ∧
    w.cell? ⟨b, o + i * 6 + 3, none⟩ = some (.int .i64 d.lo) ∧ w.cell? ⟨b, o + i * 6 + 4, none⟩ = some (.int .i64 d.ini) ∧ w.cell? ⟨b, o + i * 6 + 5, none⟩ = some (.int .i64 d.hi)
def DeclList (w : World) (a : Option Addr) (L : List DeclP) : Prop := ∀ i (h : i < L.length), DeclAt w a i L[i]
theorem DeclAt.grown {w w' : World} {a : Option Addr} {i : Nat} {x : DeclP} (h : DeclAt w a i x) (hg : w.grownBy w' none) : DeclAt w' a i x := by
  obtain ⟨b, o, e, h0, h1, h2, h3, h4, h5⟩ := h
  exact ⟨b, o, e, grown_cell hg h0, grown_cell hg h1, grown_cell hg h2, grown_cell hg h3, grown_cell hg h4, grown_cell hg h5⟩
theorem DeclList.grown {w w' : World} {a : Option Addr} {L : List DeclP} (h : DeclList w a L) (hg : w.grownBy w' none) : DeclList w' a L := fun i hi => (h i hi).grown hg
/-- what is said of a key: the first that names it -/
def declF (L : List DeclP) (k : KeyP) : DeclP × Bool := match L.find? (fun d => decide (d.k = k)) with | some d => (d, true) | none => (⟨(0, 0, 0), 0, 0, 0⟩, false)
theorem declF_hit {L : List DeclP} {k : KeyP} {j : Nat} (hj : j < L.length) (he : L[j].k = k) (hno : ∀ d ∈ L.take j, d.k ≠ k) : declF L k = (L[j], true) := by
  have : L.find? (fun d => decide (d.k = k)) = some L[j] := by
    have h1 : (L.take j).find? (fun d => decide (d.k = k)) = none := List.find?_eq_none.2 (by simpa using hno)
    have h2 : (L.drop j).find? (fun d => decide (d.k = k)) = some L[j] := by rw [List.drop_eq_getElem_cons hj, List.find?_cons_of_pos (by simp [he])]
    have h3 : L.find? (fun d => decide (d.k = k)) = (L.take j ++ L.drop j).find? (fun d => decide (d.k = k)) := by rw [List.take_append_drop]
    rw [h3, List.find?_append, h1, h2]
    rfl
  unfold declF
  rw [this]
theorem declF_none {L : List DeclP} {k : KeyP} (hno : ∀ d ∈ L, d.k ≠ k) : declF L k = (⟨(0, 0, 0), 0, 0, 0⟩, false) := by
  unfold declF
  rw [List.find?_eq_none.2 (by simpa using hno)]
theorem key_ne {x y : KeyP} (h : x ≠ y) : ((x.1.toNat : Int) == (y.1.toNat : Int)) = false ∨ (((x.1.toNat : Int) == (y.1.toNat : Int)) = true ∧ ((x.2.1.toNat : Int) == (y.2.1.toNat : Int)) = false) ∨
    (((x.1.toNat : Int) == (y.1.toNat : Int)) = true ∧ ((x.2.1.toNat : Int) == (y.2.1.toNat : Int)) = true ∧ ((x.2.2.toNat : Int) == (y.2.2.toNat : Int)) = false) := by
  rw [nat_eq, nat_eq, nat_eq]
  by_cases h1 : x.1.toNat = y.1.toNat
  · by_cases h2 : x.2.1.toNat = y.2.1.toNat
    · refine .inr (.inr ⟨decide_eq_true h1, decide_eq_true h2, decide_eq_false fun h3 => h ?_⟩)
      exact Prod.ext (UInt8.toNat_inj.1 h1) (Prod.ext (UInt8.toNat_inj.1 h2) (UInt8.toNat_inj.1 h3))
    · exact .inr (.inl ⟨decide_eq_true h1, decide_eq_false h2⟩)
  · exact .inl (decide_eq_false h1)
theorem take_snoc_all {α : Type} {L : List α} {p : α → Prop} {k : Nat} (hk : k < L.length) (he : p L[k]) (hno : ∀ x ∈ L.take k, p x) : ∀ x ∈ L.take (k + 1), p x := by
  rw [List.take_succ_eq_append_getElem hk]
  intro x h
  rcases List.mem_append.1 h with h | h
  · exact hno x h
  · rw [List.mem_singleton] at h
    rw [h]; exact he
def DeclPost (w : World) (t : DeclP × Bool) (r : Ending) (w' : World) : Prop :=
  r = .returned (.tuple #[.agg #[.int .u8 (t.1.k.1.toNat : Int), .int .u8 (t.1.k.2.1.toNat : Int), .int .u8 (t.1.k.2.2.toNat : Int), .int .i64 t.1.lo, .int .i64 t.1.ini, .int .i64 t.1.hi], .bool t.2]) ∧ w.grownBy w' none
def DeclRel (w : World) (L : List DeclP) (k : KeyP) (n : Nat) (i : Value) (wr : World) : Prop := ∃ j : Nat, j ≤ n ∧ i = .int .i64 j ∧ (∀ d ∈ L.take j, d.k ≠ k) ∧ w.grownBy wr none

theorem grow6 (w : World) (g : Nat) (a b c d e f : Value) : w.grownBy ((((((w.setCell ⟨g, 0, none⟩ a).setCell ⟨g, 1, none⟩ b).setCell ⟨g, 2, none⟩ c).setCell ⟨g, 3, none⟩ d).setCell ⟨g, 4, none⟩ e).setCell ⟨g, 5, none⟩ f) (some g) :=
  grown_same (grown_same (grown_same (grown_same (grown_same (grown_setCell _ _ _ _) (grown_setCell _ _ _ _)) (grown_setCell _ _ _ _)) (grown_setCell _ _ _ _)) (grown_setCell _ _ _ _)) (grown_setCell _ _ _ _)
end Go.Proofs.Ytomnhgcjdnhijaa
