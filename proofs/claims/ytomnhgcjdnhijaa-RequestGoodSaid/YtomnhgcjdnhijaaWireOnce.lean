/-
  WireOnce: what is read, and written again.
-/
import Derived.Test.YtomnhgcjdnhijaaWireWorks
namespace Go.Proofs.Ytomnhgcjdnhijaa
open Go.RowKit

theorem WriterAt.row_kept {w w' : World} {g h : Nat} {e : Int} {v : Value} {l : List UInt8} {most : Nat} (W : WriterAt w g e v l most) (hg : w.grownBy w' (some h)) (hh : h < g) : WriterAt w' g e v l most :=
  ⟨W.box.kept hg (by simp; omega), W.row.kept hg (.inr (W.row.ne (by omega))), W.fit⟩
theorem ReaderAt.grown {w w' : World} {g : Nat} {X : Nat → Prop} {e : Int} {l : List UInt8} (R : ReaderAt w g X e l) (h : w.grownBy w' none) : ReaderAt w' g X e l := by
  obtain ⟨a, n, c, hb, h1, h2, h3, hr⟩ := R.box
  exact ⟨R.self, a, n, c, hb.grown h, h1, h2, h3, hr.kept (Kept.of_grown h)⟩
theorem ReaderAt.wrote {w w' : World} {g gw : Nat} {X : Nat → Prop} {e e' : Int} {l l' : List UInt8} {v v' : Value} {most : Nat} (R : ReaderAt w g X e l) (W : WriterAt w gw e' v l' most) (k : Wrote w gw v w' v') (hlt : g < gw) (hX : ∀ q, gw ≤ q → X q) : ReaderAt w' g X e l := by
  obtain ⟨a, n, c, hb, h1, h2, h3, hr⟩ := R.box
  have hsub : ∀ q, (q = gw ∨ v.ownBlock = some q) → gw ≤ q := by
    rintro q (h | h)
    · omega
    · have := (W.row.lt q h).1; omega
  refine ⟨R.self, a, n, c, hb.keptX k.kept (fun h => by have := hsub g h; omega), h1, h2, h3, ?_⟩
  intro i hi
  obtain ⟨b, o, e, hx, hc⟩ := hr i hi
  exact ⟨b, o, e, hx, (World.cell?_of_block (a := ⟨b, o + i, none⟩) (k.kept.block b (World.block_lt_of_cell? w _ hc) (fun h => hx (hX b (hsub b h))))).trans hc⟩

/-- what holds ahead of each round -/
def OnceInv (b : List UInt8) (e : Int) (l : List UInt8) (e' : Int) (l' : List UInt8) : Prop := e = 0 → e' = 0 ∧ l' ++ l = b

theorem rawW_ok {l b : List UInt8} {most : Nat} (h : l.length + b.length ≤ most) : rawW most (0, l) b = (0, l ++ b) := by
  unfold rawW
  rw [if_neg (by simp), if_neg (by simp only; omega)]
theorem numW_ok {l : List UInt8} {x n most : Nat} (h1 : 1 ≤ n) (h8 : n ≤ 8) (hx : x < 2 ^ (8 * n)) (h : l.length + n ≤ most) : numW most (0, l) x n = (0, l ++ numB x n) := by
  unfold numW
  rw [if_neg, Int.toNat_natCast, rawW_ok (by rw [numB_length]; exact h)]
  rintro (h | h | ⟨_, h⟩)
  · omega
  · omega
  · exact h (by rw [Int.toNat_natCast]; exact Nat.div_eq_of_lt hx)
theorem bytesW_ok {l b : List UInt8} {most : Nat} (hb : b.length ≤ 65535) (h : l.length + 2 + b.length ≤ most) : bytesW most (0, l) b = (0, l ++ (numB b.length 2 ++ b)) := by
  unfold bytesW
  rw [if_neg (by omega), rawW_ok (by rw [List.length_append, numB_length]; omega)]

theorem once_bool {b l l' : List UInt8} {e e' : Int} (hb : b.length ≤ 400) (h : OnceInv b e l e' l') :
    OnceInv b (boolR e l).2.1 (boolR e l).2.2 (rawW 1000 (e', l') [if (boolR e l).1 then 1 else 0]).1 (rawW 1000 (e', l') [if (boolR e l).1 then 1 else 0]).2 := by
  intro he
  obtain ⟨⟨t, e1, l1⟩, ht⟩ : ∃ t, boolR e l = t := ⟨_, rfl⟩
  rw [ht] at he ⊢
  simp only at he ⊢
  subst he
  by_cases h0 : e = 0
  · subst h0
    obtain ⟨rfl, hl⟩ := h rfl
    have := boolR_ok ht
    subst this
    have hlen := congrArg List.length hl
    simp only [List.length_append, List.length_cons] at hlen
    rw [rawW_ok (by simp; omega)]
    exact ⟨rfl, by rw [← hl, List.append_assoc]; rfl⟩
  · rw [boolR_bad h0] at ht
    simp only [Prod.mk.injEq] at ht
    exact absurd ht.2.1 h0
theorem once_num {b l l' : List UInt8} {e e' : Int} {n : Int} (hb : b.length ≤ 400) (h : OnceInv b e l e' l') :
    OnceInv b (numR e l n).2.1 (numR e l n).2.2 (numW 1000 (e', l') (numR e l n).1 n).1 (numW 1000 (e', l') (numR e l n).1 n).2 := by
  intro he
  obtain ⟨⟨t, e1, l1⟩, ht⟩ : ∃ t, numR e l n = t := ⟨_, rfl⟩
  rw [ht] at he ⊢
  simp only at he ⊢
  subst he
  by_cases h0 : e = 0
  · subst h0
    obtain ⟨rfl, hl⟩ := h rfl
    obtain ⟨h1, h8, hx, rfl⟩ := numR_ok ht
    obtain ⟨n, rfl⟩ : ∃ k : Nat, n = k := ⟨n.toNat, by omega⟩
    rw [Int.toNat_natCast] at hl hx
    have hlen := congrArg List.length hl
    simp only [List.length_append, numB_length] at hlen
    rw [numW_ok (by omega) (by omega) hx (by omega)]
    exact ⟨rfl, by rw [← hl, List.append_assoc]⟩
  · rw [numR_bad h0] at ht
    simp only [Prod.mk.injEq] at ht
    exact absurd ht.2.1 h0
theorem once_bytes {b l l' : List UInt8} {e e' : Int} {n : Int} (hb : b.length ≤ 400) (h : OnceInv b e l e' l') :
    OnceInv b (bytesR e l n).2.1 (bytesR e l n).2.2 (bytesW 1000 (e', l') (bytesR e l n).1).1 (bytesW 1000 (e', l') (bytesR e l n).1).2 := by
  intro he
  obtain ⟨⟨t, e1, l1⟩, ht⟩ : ∃ t, bytesR e l n = t := ⟨_, rfl⟩
  rw [ht] at he ⊢
  simp only at he ⊢
  subst he
  by_cases h0 : e = 0
  · subst h0
    obtain ⟨rfl, hl⟩ := h rfl
    obtain ⟨h1, h8, rfl⟩ := bytesR_ok ht
    have hlen := congrArg List.length hl
    simp only [List.length_append, numB_length] at hlen
    rw [bytesW_ok h1 (by omega)]
    exact ⟨rfl, by rw [← hl]; simp⟩
  · rw [bytesR_bad h0] at ht
    simp only [Prod.mk.injEq] at ht
    exact absurd ht.2.1 h0

theorem numR_lt (e : Int) (l : List UInt8) (n : Int) : (numR e l n).1 < 18446744073709551616 := by
  unfold numR
  split
  · simp
  · simp only
    have h1 := valN_lt (takeR e l n.toNat).1
    have h2 : (takeR e l n.toNat).1.length ≤ 8 := by
      unfold takeR
      split
      · simp
      · split
        · simp
        · simp; omega
    exact Nat.lt_of_lt_of_le h1 (Nat.le_trans (Nat.pow_le_pow_right (by decide) (show 8 * _ ≤ 64 by omega)) (by decide))

/-- a reader and a writer, the one's box ahead of the other's -/
structure Both (w : World) (X : Nat → Prop) (gr gw : Nat) (e : Int) (l : List UInt8) (e' : Int) (v : Value) (l' : List UInt8) (most : Nat) : Prop where
  r : ReaderAt w gr X e l
  w : WriterAt w gw e' v l' most
  lt : gr < gw
  x : ∀ q, gw ≤ q → X q
theorem Both.read {w w' : World} {X : Nat → Prop} {gr gw : Nat} {e e1 : Int} {l l1 : List UInt8} {e' : Int} {v : Value} {l' : List UInt8} {most : Nat} (B : Both w X gr gw e l e' v l' most) (R : ReaderAt w' gr X e1 l1) (hg : w.grownBy w' (some gr)) : Both w' X gr gw e1 l1 e' v l' most :=
  ⟨R, B.w.row_kept hg B.lt, B.lt, B.x⟩
theorem Both.write {w w' : World} {X : Nat → Prop} {gr gw : Nat} {e : Int} {l : List UInt8} {e' e1 : Int} {v v' : Value} {l' l1 : List UInt8} {most : Nat} (B : Both w X gr gw e l e' v l' most) (W : WriterAt w' gw e1 v' l1 most) (k : Wrote w gw v w' v') : Both w' X gr gw e l e1 v' l1 most :=
  ⟨B.r.wrote B.w k B.lt B.x, W, B.lt, B.x⟩

def OnceRel (w : World) (X : Nat → Prop) (gr gw n : Nat) (b : List UInt8) (i : Value) (wr : World) : Prop :=
  ∃ (k : Nat) (e : Int) (l : List UInt8) (e' : Int) (v : Value) (l' : List UInt8), k ≤ n ∧ i = .int .i64 k ∧ Both wr X gr gw e l e' v l' 1000 ∧ OnceInv b e l e' l' ∧ w.grownBy wr none

end Go.Proofs.Ytomnhgcjdnhijaa
