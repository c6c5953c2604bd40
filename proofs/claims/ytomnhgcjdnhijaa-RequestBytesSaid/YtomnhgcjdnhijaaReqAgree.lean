/-
  Plain Lean: both readers agree.
-/
import Derived.Test.YtomnhgcjdnhijaaReqRd
namespace Go.Proofs.Ytomnhgcjdnhijaa
open Go.RowKit
set_option maxRecDepth 100000

/-- the same error; the same left, as long as nothing is wrong -/
def Agree (s t : Int × List UInt8) : Prop := s.1 = t.1 ∧ (s.1 = 0 → s.2 = t.2)
theorem num_agree {e e' : Int} {l m : List UInt8} {n : Nat} (h : Agree (e, l) (e', m)) (h1 : 1 ≤ n) (h8 : n ≤ 8) : (numR e l n).1 = (numF e' m n).1 ∧ Agree (numR e l n).2 (numF e' m n).2 := by
  obtain ⟨he, hl⟩ := h
  simp only at he hl
  subst he
  by_cases h0 : e = 0
  · subst h0
    obtain rfl := hl rfl
    rw [num_same h1 h8]
    refine ⟨rfl, rfl, fun hz => ?_⟩
    simp only
    rw [if_pos hz]
  · rw [numR_ill h0 l h1 h8]
    unfold numF
    rw [if_pos h0]
    exact ⟨rfl, rfl, fun hz => absurd hz h0⟩
theorem readL_ill {e : Int} (he : e ≠ 0) : ∀ (n : Nat) (l : List UInt8), (readL n e l).2.1 = e := by
  intro n
  induction n with
  | zero => intro l; rfl
  | succ n ih =>
    intro l
    unfold readL
    rw [show numR e l 1 = _ from numR_ill he l (n := 1) (by decide) (by decide)]
    simp only
    rw [show numR e l 8 = _ from numR_ill he l (n := 8) (by decide) (by decide)]
    exact ih l
theorem lines_agree : ∀ (n : Nat) (e e' : Int) (l m : List UInt8), Agree (e, l) (e', m) → (readL n e l).2.1 = (loopF n e' m).2.1 ∧ ((readL n e l).2.1 = 0 → readL n e l = loopF n e' m) := by
  intro n
  induction n with
  | zero =>
    intro e e' l m h
    obtain ⟨he, hl⟩ := h
    simp only at he hl
    subst he
    refine ⟨rfl, fun hz => ?_⟩
    have hz : e = 0 := hz
    rw [hl hz]
    rfl
  | succ n ih =>
    intro e e' l m h
    by_cases h0 : e = 0
    · have h0' : e' = 0 := h.1.symm.trans h0
      obtain ⟨a1, a2⟩ := num_agree (n := 1) h (by decide) (by decide)
      obtain ⟨b1, b2⟩ := num_agree (n := 8) (show Agree ((numR e l 1).2.1, (numR e l 1).2.2) ((numF e' m 1).2.1, (numF e' m 1).2.2) from a2) (by decide) (by decide)
      obtain ⟨c1, c2⟩ := ih _ _ _ _ (show Agree ((numR (numR e l 1).2.1 (numR e l 1).2.2 8).2.1, (numR (numR e l 1).2.1 (numR e l 1).2.2 8).2.2) ((numF (numF e' m 1).2.1 (numF e' m 1).2.2 8).2.1, (numF (numF e' m 1).2.1 (numF e' m 1).2.2 8).2.2) from b2)
      have a1 : (numR e l 1).1 = (numF e' m 1).1 := a1
      have b1 : (numR (numR e l 1).2.1 (numR e l 1).2.2 8).1 = (numF (numF e' m 1).2.1 (numF e' m 1).2.2 8).1 := b1
      unfold readL loopF
      rw [if_neg (show ¬ e' ≠ 0 by simpa using h0')]
      refine ⟨c1, fun hz => ?_⟩
      rw [a1, b1, c2 hz]
    · have he : e' = e := h.1.symm
      have h1 := readL_ill h0 (n + 1) l
      rw [h1]
      unfold loopF
      rw [if_pos (by rw [he]; exact h0)]
      exact ⟨he.symm, fun hz => absurd hz h0⟩
theorem numR_zero {e : Int} {l : List UInt8} {n : Nat} (h1 : 1 ≤ n) (h8 : n ≤ 8) (h : (numR e l n).2.1 ≠ 0) : (numR e l n).1 = 0 := by
  by_cases h0 : e = 0
  · subst h0
    by_cases hl : l.length < n
    · rw [numR_short h1 h8 hl]
    · rw [numR_fit h1 h8 (by omega)] at h
      exact absurd rfl h
  · rw [numR_ill h0 l h1 h8]
/-- a request whose kind was read, by the document -/
def bodyF (k : UInt8) (e : Int) (r : List UInt8) : ReqP × Int × List UInt8 :=
  if k = 1 then
    (⟨k, (numF e r 4).1, UInt8.ofNat (numF (numF e r 4).2.1 (numF e r 4).2.2 1).1,
       (linesF (numF (numF e r 4).2.1 (numF e r 4).2.2 1).2.1 (numF (numF e r 4).2.1 (numF e r 4).2.2 1).2.2).1, 0, 0, 0, 0⟩,
       (linesF (numF (numF e r 4).2.1 (numF e r 4).2.2 1).2.1 (numF (numF e r 4).2.1 (numF e r 4).2.2 1).2.2).2)
  else if k.toNat ≤ 4 then (⟨k, (numF e r 4).1, 0, [], 0, 0, 0, 0⟩, (numF e r 4).2)
  else if k = 5 then
    (⟨k, 0, 0, [], UInt8.ofNat (numF e r 1).1, 0, UInt8.ofNat (numF (numF e r 1).2.1 (numF e r 1).2.2 1).1, wrap64 ((numF (numF (numF e r 1).2.1 (numF e r 1).2.2 1).2.1 (numF (numF e r 1).2.1 (numF e r 1).2.2 1).2.2 8).1 : Int)⟩,
      (numF (numF (numF e r 1).2.1 (numF e r 1).2.2 1).2.1 (numF (numF e r 1).2.1 (numF e r 1).2.2 1).2.2 8).2)
  else if k = 6 then
    (⟨k, 0, 0, [], UInt8.ofNat (numF e r 1).1, UInt8.ofNat (numF (numF e r 1).2.1 (numF e r 1).2.2 1).1, UInt8.ofNat (numF (numF (numF e r 1).2.1 (numF e r 1).2.2 1).2.1 (numF (numF e r 1).2.1 (numF e r 1).2.2 1).2.2 1).1,
       wrap64 ((numF (numF (numF (numF e r 1).2.1 (numF e r 1).2.2 1).2.1 (numF (numF e r 1).2.1 (numF e r 1).2.2 1).2.2 1).2.1 (numF (numF (numF e r 1).2.1 (numF e r 1).2.2 1).2.1 (numF (numF e r 1).2.1 (numF e r 1).2.2 1).2.2 1).2.2 8).1 : Int)⟩,
      (numF (numF (numF (numF e r 1).2.1 (numF e r 1).2.2 1).2.1 (numF (numF e r 1).2.1 (numF e r 1).2.2 1).2.2 1).2.1 (numF (numF (numF e r 1).2.1 (numF e r 1).2.2 1).2.1 (numF (numF e r 1).2.1 (numF e r 1).2.2 1).2.2 1).2.2 8).2)
  else (⟨k, 0, 0, [], UInt8.ofNat (numF e r 1).1, 0, 0, 0⟩, (numF e r 1).2)
theorem body_agree (k : UInt8) (r : List UInt8) : (bodyR k r).2.1 = (bodyF k 0 r).2.1 ∧ ((bodyR k r).2.1 = 0 → bodyR k r = bodyF k 0 r) := by
  have h0 : Agree (0, r) (0, r) := ⟨rfl, fun _ => rfl⟩
  have step : ∀ (n : Nat) (s t : Int × List UInt8), 1 ≤ n → n ≤ 8 → Agree s t → (numR s.1 s.2 n).1 = (numF t.1 t.2 n).1 ∧ Agree (numR s.1 s.2 n).2 (numF t.1 t.2 n).2 := fun n s t h1 h8 h => num_agree h h1 h8
  unfold bodyR bodyF
  by_cases h1 : k = 1
  · rw [if_pos h1, if_pos h1]
    obtain ⟨a1, a2⟩ := step 4 _ _ (by decide) (by decide) h0
    simp only at a1 a2
    obtain ⟨⟨xo, s1⟩, hx⟩ : ∃ t, numR 0 r 4 = t := ⟨_, rfl⟩
    obtain ⟨⟨xo', t1⟩, hx'⟩ : ∃ t, numF 0 r 4 = t := ⟨_, rfl⟩
    rw [show numR 0 r ((4 : Nat) : Int) = numR 0 r 4 from rfl, show numF 0 r ((4 : Nat) : Int) = numF 0 r 4 from rfl, hx, hx'] at a1 a2
    rw [hx, hx']
    simp only at a1 a2 ⊢
    subst a1
    clear hx hx'
    obtain ⟨b1, b2⟩ := step 1 _ _ (by decide) (by decide) a2
    obtain ⟨⟨xp, s2⟩, hx⟩ : ∃ t, numR s1.1 s1.2 1 = t := ⟨_, rfl⟩
    obtain ⟨⟨xp', t2⟩, hx'⟩ : ∃ t, numF t1.1 t1.2 1 = t := ⟨_, rfl⟩
    rw [show numR s1.1 s1.2 ((1 : Nat) : Int) = numR s1.1 s1.2 1 from rfl, show numF t1.1 t1.2 ((1 : Nat) : Int) = numF t1.1 t1.2 1 from rfl, hx, hx'] at b1 b2
    rw [hx, hx']
    simp only at b1 b2 ⊢
    subst b1
    clear hx hx' a2
    obtain ⟨c1, c2⟩ := step 1 _ _ (by decide) (by decide) b2
    have hz := numR_zero (e := s2.1) (l := s2.2) (n := 1) (by decide) (by decide)
    unfold linesF cntF
    obtain ⟨⟨xn, s3⟩, hx⟩ : ∃ t, numR s2.1 s2.2 1 = t := ⟨_, rfl⟩
    obtain ⟨⟨xn', t3⟩, hx'⟩ : ∃ t, numF t2.1 t2.2 1 = t := ⟨_, rfl⟩
    rw [show numR s2.1 s2.2 ((1 : Nat) : Int) = numR s2.1 s2.2 1 from rfl, hx] at hz
    rw [show numR s2.1 s2.2 ((1 : Nat) : Int) = numR s2.1 s2.2 1 from rfl, show numF t2.1 t2.2 ((1 : Nat) : Int) = numF t2.1 t2.2 1 from rfl, hx, hx'] at c1 c2
    rw [hx, hx']
    simp only at c1 c2 hz ⊢
    subst c1
    clear hx hx' b2
    obtain ⟨e3, l3⟩ := s3
    obtain ⟨e3', m3⟩ := t3
    have he : e3 = e3' := c2.1
    subst he
    simp only at hz ⊢
    by_cases hn : 3 < xn
    · have h0 : e3 = 0 := Decidable.of_not_not (fun h => by have := hz h; omega)
      rw [if_pos hn, if_neg (by simpa using h0), if_pos hn]
      exact ⟨rfl, fun h => by cases h⟩
    · rw [if_neg hn]
      by_cases h0 : e3 = 0
      · rw [if_neg (by simpa using h0), if_neg hn]
        obtain ⟨d1, d2⟩ := lines_agree xn _ _ _ _ c2
        exact ⟨d1, fun h => by simp only at h ⊢; rw [d2 h]⟩
      · rw [if_pos h0, hz h0]
        exact ⟨rfl, fun h => absurd h h0⟩
  · rw [if_neg h1, if_neg h1]
    by_cases h4 : k.toNat ≤ 4
    · rw [if_pos h4, if_pos h4]
      obtain ⟨a1, a2⟩ := step 4 _ _ (by decide) (by decide) h0
      have a1 : (numR 0 r 4).1 = (numF 0 r 4).1 := a1
      refine ⟨a2.1, fun hz => ?_⟩
      have hl : (numR 0 r 4).2 = (numF 0 r 4).2 := Prod.ext a2.1 (a2.2 hz)
      rw [a1, hl]
    · rw [if_neg h4, if_neg h4]
      by_cases h5 : k = 5
      · rw [if_pos h5, if_pos h5]
        obtain ⟨a1, a2⟩ := step 1 _ _ (by decide) (by decide) h0
        obtain ⟨b1, b2⟩ := step 1 _ _ (by decide) (by decide) a2
        obtain ⟨c1, c2⟩ := step 8 _ _ (by decide) (by decide) b2
        refine ⟨c2.1, fun hz => ?_⟩
        exact Prod.ext (by
          simp only
          rw [show (numR 0 r 1).1 = (numF 0 r 1).1 from a1, show (numR (numR 0 r 1).2.1 (numR 0 r 1).2.2 1).1 = _ from b1, show (numR (numR (numR 0 r 1).2.1 (numR 0 r 1).2.2 1).2.1 (numR (numR 0 r 1).2.1 (numR 0 r 1).2.2 1).2.2 8).1 = _ from c1]
          rfl) (Prod.ext c2.1 (c2.2 hz))
      · rw [if_neg h5, if_neg h5]
        by_cases h6 : k = 6
        · rw [if_pos h6, if_pos h6]
          obtain ⟨a1, a2⟩ := step 1 _ _ (by decide) (by decide) h0
          obtain ⟨b1, b2⟩ := step 1 _ _ (by decide) (by decide) a2
          obtain ⟨c1, c2⟩ := step 1 _ _ (by decide) (by decide) b2
          obtain ⟨d1, d2⟩ := step 8 _ _ (by decide) (by decide) c2
          refine ⟨d2.1, fun hz => ?_⟩
          exact Prod.ext (by
            simp only
            rw [show (numR 0 r 1).1 = (numF 0 r 1).1 from a1, show (numR (numR 0 r 1).2.1 (numR 0 r 1).2.2 1).1 = _ from b1, show (numR (numR (numR 0 r 1).2.1 (numR 0 r 1).2.2 1).2.1 (numR (numR 0 r 1).2.1 (numR 0 r 1).2.2 1).2.2 1).1 = _ from c1, show (numR (numR (numR (numR 0 r 1).2.1 (numR 0 r 1).2.2 1).2.1 (numR (numR 0 r 1).2.1 (numR 0 r 1).2.2 1).2.2 1).2.1 (numR (numR (numR 0 r 1).2.1 (numR 0 r 1).2.2 1).2.1 (numR (numR 0 r 1).2.1 (numR 0 r 1).2.2 1).2.2 1).2.2 8).1 = _ from d1]
            rfl) (Prod.ext d2.1 (d2.2 hz))
        · rw [if_neg h6, if_neg h6]
          obtain ⟨a1, a2⟩ := step 1 _ _ (by decide) (by decide) h0
          have a1 : (numR 0 r 1).1 = (numF 0 r 1).1 := a1
          refine ⟨a2.1, fun hz => ?_⟩
          have hl : (numR 0 r 1).2 = (numF 0 r 1).2 := Prod.ext a2.1 (a2.2 hz)
          rw [a1, hl]

theorem dec_body (k : UInt8) (rs : List UInt8) (hk : ¬ (k.toNat < 1 ∨ 7 < k.toNat)) :
    decR (k :: rs) = if (bodyF k 0 rs).2.1 ≠ 0 then (zeroQ, (bodyF k 0 rs).2.1) else if (bodyF k 0 rs).2.2 ≠ [] then (zeroQ, 8) else ((bodyF k 0 rs).1, 0) := by
  obtain ⟨h1, h2⟩ := body_agree k rs
  rw [decR_cons, if_neg hk]
  by_cases h0 : (bodyR k rs).2.1 = 0
  · rw [h2 h0]
    rw [h2 h0] at h0
    unfold endR
    rw [if_pos h0, if_neg (show ¬ (bodyF k 0 rs).2.1 ≠ 0 by simpa using h0)]
    by_cases hl : (bodyF k 0 rs).2.2 = []
    · rw [if_pos hl, if_neg (by simp), if_neg (by simpa using hl)]
    · rw [if_neg hl, if_pos (by simp), if_pos hl]
  · rw [endR_ill h0, if_pos h0, ← h1, if_pos h0]
theorem numF_nil (n : Nat) (h1 : 1 ≤ n) (h8 : n ≤ 8) : numF 0 [] n = (0, 6, []) := by
  rw [num_same h1 h8, numR_short h1 h8 (show ([] : List UInt8).length < n from h1)]
  rfl
theorem numF_cons (k : UInt8) (rs : List UInt8) : numF 0 (k :: rs) 1 = (k.toNat, 0, rs) := by
  rw [show numF 0 (k :: rs) 1 = _ from num_same (n := 1) (by decide) (by decide)]
  rw [show numR 0 (k :: rs) ((1 : Nat) : Int) = _ from numR_cons k rs]
  rfl
theorem numF_ill {e : Int} (he : e ≠ 0) (l : List UInt8) (n : Int) : numF e l n = (0, e, l) := by
  unfold numF
  rw [if_pos he]

end Go.Proofs.Ytomnhgcjdnhijaa
