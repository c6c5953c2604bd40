/-
  Plain Lean: what is encoded is decoded as it was, what is decoded is plain, and encoded so.
-/
import Derived.Test.YtomnhgcjdnhijaaReqDec
namespace Go.Proofs.Ytomnhgcjdnhijaa
open Go.RowKit
set_option maxRecDepth 100000

theorem numR_put {x n : Nat} (h1 : 1 ≤ n) (h8 : n ≤ 8) (hx : x < 2 ^ (8 * n)) (rest : List UInt8) : numR 0 (numB x n ++ rest) n = (x, 0, rest) := by
  rw [numR_fit h1 h8 (by rw [List.length_append, numB_length]; omega)]
  have ht : (numB x n ++ rest).take n = numB x n := List.take_left' (numB_length x n)
  have hd : (numB x n ++ rest).drop n = rest := List.drop_left' (numB_length x n)
  rw [ht, hd, valN_numB, Nat.mod_eq_of_lt hx]
theorem numR_got {e : Int} {l r : List UInt8} {x n : Nat} (h1 : 1 ≤ n) (h8 : n ≤ 8) (h : numR e l n = (x, 0, r)) : e = 0 ∧ l = numB x n ++ r ∧ x < 2 ^ (8 * n) := by
  by_cases he : e = 0
  · subst he
    by_cases hl : l.length < n
    · rw [numR_short h1 h8 hl] at h; cases h
    · have hlt := numR_less 0 l n h1 h8
      rw [h] at hlt
      rw [numR_fit h1 h8 (by omega)] at h
      cases h
      have := numB_valN (l.take n)
      rw [List.length_take, Nat.min_eq_left (by omega)] at this
      exact ⟨rfl, by rw [this, List.take_append_drop], hlt⟩
  · rw [numR_ill he l h1 h8] at h
    cases h
    exact absurd rfl he
theorem numB_one (x : Nat) : numB x 1 = [UInt8.ofNat x] := by simp [numB]
theorem numB_u8 (u : UInt8) : numB u.toNat 1 = [u] := by rw [numB_one]; simp
theorem numR_u8 (u : UInt8) (rest : List UInt8) : numR 0 (u :: rest) 1 = (u.toNat, 0, rest) := numR_cons u rest
theorem got_u8 {e : Int} {l r : List UInt8} {x : Nat} (h : numR e l 1 = (x, 0, r)) : e = 0 ∧ l = UInt8.ofNat x :: r ∧ x < 256 := by
  obtain ⟨h0, h1, h2⟩ := numR_got (n := 1) (by decide) (by decide) h
  exact ⟨h0, by rw [h1, numB_one]; rfl, by simpa using h2⟩
theorem ok_wrap (x : Int) : i64ok (wrap64 x) := by unfold i64ok wrap64; omega
theorem u64n_wrap (x : Nat) (h : x < 18446744073709551616) : u64n (wrap64 (x : Int)) = x := by
  unfold u64n wrap64
  simp [IntKind.wrap, IntKind.signed, IntKind.bits]
  omega
theorem readL_put : ∀ (L : List LineP) (rest : List UInt8), (∀ x ∈ L, i64ok x.2) → readL L.length 0 (linesB L ++ rest) = (L, 0, rest) := by
  intro L
  induction L with
  | nil => intro rest _; rfl
  | cons x L ih =>
    intro rest ok
    have h1 : linesB (x :: L) ++ rest = x.1 :: (numB (u64n x.2) 8 ++ (linesB L ++ rest)) := by
      simp [linesB, lineB]
    rw [List.length_cons, h1]
    unfold readL
    rw [numR_u8]
    simp only
    rw [show numR 0 (numB (u64n x.2) 8 ++ (linesB L ++ rest)) 8 = _ from numR_put (n := 8) (by decide) (by decide) (u64n_lt _) _]
    simp only
    rw [ih rest (fun y hy => ok y (List.mem_cons_of_mem _ hy)), u64n_back _ (ok x (List.mem_cons_self ..))]
    simp
theorem readL_got : ∀ (n : Nat) (e : Int) (l : List UInt8) (L : List LineP) (r : List UInt8), readL n e l = (L, 0, r) → e = 0 ∧ L.length = n ∧ (∀ x ∈ L, i64ok x.2) ∧ l = linesB L ++ r := by
  intro n
  induction n with
  | zero =>
    intro e l L r h
    cases h
    exact ⟨rfl, rfl, (fun _ h => by cases h), rfl⟩
  | succ n ih =>
    intro e l L r h
    unfold readL at h
    obtain ⟨⟨x1, e1, m1⟩, h1⟩ : ∃ t, numR e l 1 = t := ⟨_, rfl⟩
    rw [h1] at h
    simp only at h
    obtain ⟨⟨x2, e2, m2⟩, h2⟩ : ∃ t, numR e1 m1 8 = t := ⟨_, rfl⟩
    rw [h2] at h
    simp only at h
    obtain ⟨⟨M, e3, m3⟩, h3⟩ : ∃ t, readL n e2 m2 = t := ⟨_, rfl⟩
    rw [h3] at h
    simp only [Prod.mk.injEq] at h
    obtain ⟨rfl, rfl, rfl⟩ := h
    obtain ⟨he2, hl, hok, hm2⟩ := ih e2 m2 _ _ h3
    subst he2 hm2
    obtain ⟨rfl, rfl, hx2⟩ := numR_got (n := 8) (by decide) (by decide) h2
    obtain ⟨rfl, rfl, hx1⟩ := got_u8 h1
    refine ⟨rfl, by simp [hl], ?_, ?_⟩
    · intro y hy
      rcases List.mem_cons.1 hy with rfl | hy
      · exact ok_wrap _
      · exact hok y hy
    · simp only [linesB, List.map_cons, List.flatten_cons, lineB]
      rw [u64n_wrap x2 (by simpa using hx2)]
      simp
/-- the shapes of those that can be told -/
theorem plain_shape {r : ReqP} (h : r.plain = true) :
    (r.k = 1 ∧ r.L.length ≤ 3 ∧ r.s = 0 ∧ r.f = 0 ∧ r.t = 0 ∧ r.q = 0) ∨
    (r.k ≠ 1 ∧ 1 ≤ r.k.toNat ∧ r.k.toNat ≤ 4 ∧ r.p = 0 ∧ r.L = [] ∧ r.s = 0 ∧ r.f = 0 ∧ r.t = 0 ∧ r.q = 0) ∨
    (r.k = 5 ∧ r.o = 0 ∧ r.p = 0 ∧ r.L = [] ∧ r.f = 0) ∨ (r.k = 6 ∧ r.o = 0 ∧ r.p = 0 ∧ r.L = []) ∨
    (r.k = 7 ∧ r.o = 0 ∧ r.p = 0 ∧ r.L = [] ∧ r.f = 0 ∧ r.t = 0 ∧ r.q = 0) := by
  unfold ReqP.plain plainF movedF at h
  have zs : ((r.s.toNat : Int) == 0) = decide (r.s = 0) := k_eq r.s 0 (by decide)
  have zf : ((r.f.toNat : Int) == 0) = decide (r.f = 0) := k_eq r.f 0 (by decide)
  have zt : ((r.t.toNat : Int) == 0) = decide (r.t = 0) := k_eq r.t 0 (by decide)
  have zp : ((r.p.toNat : Int) == 0) = decide (r.p = 0) := k_eq r.p 0 (by decide)
  have e1 : ((r.k.toNat : Int) == 1) = decide (r.k = 1) := k_eq r.k 1 (by decide)
  have e5 : ((r.k.toNat : Int) == 5) = decide (r.k = 5) := k_eq r.k 5 (by decide)
  have e6 : ((r.k.toNat : Int) == 6) = decide (r.k = 6) := k_eq r.k 6 (by decide)
  have e7 : ((r.k.toNat : Int) == 7) = decide (r.k = 7) := k_eq r.k 7 (by decide)
  rw [zs, zf, zt, zp, e1, e5, e6] at h
  have hk1 : r.k = 1 ↔ r.k.toNat = 1 := by rw [← decide_eq_true_eq (p := r.k = 1), ← e1, beq_iff_eq]; omega
  have hk5 : r.k = 5 ↔ r.k.toNat = 5 := by rw [← decide_eq_true_eq (p := r.k = 5), ← e5, beq_iff_eq]; omega
  have hk6 : r.k = 6 ↔ r.k.toNat = 6 := by rw [← decide_eq_true_eq (p := r.k = 6), ← e6, beq_iff_eq]; omega
  have hk7 : r.k = 7 ↔ r.k.toNat = 7 := by rw [← decide_eq_true_eq (p := r.k = 7), ← e7, beq_iff_eq]; omega
  by_cases h4 : (r.k.toNat : Int) ≤ 4
  · rw [if_pos h4] at h
    simp only [Bool.and_eq_true, Bool.or_eq_true, decide_eq_true_eq, beq_iff_eq, List.length_eq_zero_iff] at h
    obtain ⟨⟨⟨⟨⟨a1, a7⟩, a3⟩, a1o⟩, a6⟩, ⟨hs, ht⟩, hq⟩ := h
    have hf : r.f = 0 := a6.resolve_left (by rw [hk6]; omega)
    by_cases hk : r.k = 1
    · exact .inl ⟨hk, a3, hs, hf, ht, hq⟩
    · obtain ⟨hp, hL⟩ := a1o.resolve_left hk
      exact .inr (.inl ⟨hk, by omega, by omega, hp, hL, hs, hf, ht, hq⟩)
  · rw [if_neg h4] at h
    simp only [Bool.and_eq_true, Bool.or_eq_true, decide_eq_true_eq, beq_iff_eq, List.length_eq_zero_iff] at h
    obtain ⟨⟨⟨⟨⟨a1, a7⟩, a3⟩, a1o⟩, a6⟩, ho, hm⟩ := h
    obtain ⟨hp, hL⟩ := a1o.resolve_left (by rw [hk1]; omega)
    have ho : r.o = 0 := by omega
    by_cases h5 : r.k = 5
    · exact .inr (.inr (.inl ⟨h5, ho, hp, hL, a6.resolve_left (by rw [h5]; decide)⟩))
    · by_cases h6 : r.k = 6
      · exact .inr (.inr (.inr (.inl ⟨h6, ho, hp, hL⟩)))
      · obtain ⟨ht, hq⟩ := hm.resolve_left (by rintro (h | h) <;> contradiction)
        exact .inr (.inr (.inr (.inr ⟨hk7.2 (by rw [hk5] at h5; rw [hk6] at h6; omega), ho, hp, hL, a6.resolve_left h6, ht, hq⟩)))
theorem body_put {r : ReqP} (h : r.plain = true) (ok : r.ok) : ∃ pay, reqB r = r.k :: pay ∧ bodyR r.k pay = (r, 0, []) ∧ pay.length ≤ 40 := by
  have hs := plain_shape h
  obtain ⟨ho, hq, hL⟩ := ok
  obtain ⟨k, o, p, L, s, f, t, q⟩ := r
  simp only at hs ho hq hL
  have n4 : ∀ rest, numR 0 (numB o 4 ++ rest) 4 = (o, 0, rest) := fun rest => numR_put (n := 4) (by decide) (by decide) (by omega) rest
  have n8 : ∀ rest, numR 0 (numB (u64n q) 8 ++ rest) 8 = (u64n q, 0, rest) := fun rest => numR_put (n := 8) (by decide) (by decide) (u64n_lt _) rest
  have wq := u64n_back q hq
  have n40 := n4 []
  have n80 := n8 []
  rw [List.append_nil] at n40 n80
  rcases hs with ⟨rfl, h3, rfl, rfl, rfl, rfl⟩ | ⟨h1, _, h4, rfl, rfl, rfl, rfl, rfl, rfl⟩ | ⟨rfl, rfl, rfl, rfl, rfl⟩ | ⟨rfl, rfl, rfl, rfl⟩ | ⟨rfl, rfl, rfl, rfl, rfl, rfl, rfl⟩
  · refine ⟨numB o 4 ++ ([p, UInt8.ofNat L.length] ++ linesB L), by simp [reqB], ?_, ?_⟩
    · unfold bodyR
      rw [if_pos rfl, n4]
      simp only [List.cons_append, List.nil_append]
      rw [numR_u8]
      simp only
      rw [numR_u8]
      simp only
      have hl : (UInt8.ofNat L.length).toNat = L.length := by simp; omega
      rw [hl, if_neg (by omega)]
      have := readL_put L [] hL
      rw [List.append_nil] at this
      rw [this]
      simp
    · rw [List.length_append, List.length_append, numB_length, linesB_length]; simp; omega
  · refine ⟨numB o 4, by unfold reqB; simp only; rw [if_neg h1, if_pos h4]; rfl, ?_, ?_⟩
    · unfold bodyR
      rw [if_neg h1, if_pos h4, n40]
    · rw [numB_length]; omega
  · refine ⟨[s, t] ++ numB (u64n q) 8, by simp [reqB], ?_, ?_⟩
    · unfold bodyR
      rw [if_neg (show ¬ (5 : UInt8) = 1 by decide), if_neg (show ¬ (5 : UInt8).toNat ≤ 4 by decide), if_pos rfl]
      simp only [List.cons_append, List.nil_append]
      rw [numR_u8]
      simp only
      rw [numR_u8]
      simp only
      rw [n80, wq]
      simp
    · rw [List.length_append, numB_length]; simp
  · refine ⟨[s, f, t] ++ numB (u64n q) 8, by simp [reqB], ?_, ?_⟩
    · unfold bodyR
      rw [if_neg (show ¬ (6 : UInt8) = 1 by decide), if_neg (show ¬ (6 : UInt8).toNat ≤ 4 by decide), if_neg (show ¬ (6 : UInt8) = 5 by decide), if_pos rfl]
      simp only [List.cons_append, List.nil_append]
      rw [numR_u8]
      simp only
      rw [numR_u8]
      simp only
      rw [numR_u8]
      simp only
      rw [n80, wq]
      simp
    · rw [List.length_append, numB_length]; simp
  · refine ⟨[s], by simp [reqB], ?_, ?_⟩
    · unfold bodyR
      rw [if_neg (show ¬ (7 : UInt8) = 1 by decide), if_neg (show ¬ (7 : UInt8).toNat ≤ 4 by decide), if_neg (show ¬ (7 : UInt8) = 5 by decide), if_neg (show ¬ (7 : UInt8) = 6 by decide), numR_u8]
      simp
    · simp
theorem dec_encR {r : ReqP} {l : List UInt8} (h : encR r = (l, 0)) (ok : r.ok) : decR l = (r, 0) ∧ l.length ≤ 41 := by
  unfold encR at h
  by_cases hp : r.plain = true
  · rw [if_pos hp] at h
    cases h
    obtain ⟨pay, h1, h2, h3⟩ := body_put hp ok
    have hf := plain_facts hp
    rw [h1, decR_cons, if_neg (by omega), h2]
    exact ⟨by simp [endR], by simp; omega⟩
  · rw [if_neg hp] at h; cases h
theorem plain_of (r : ReqP) (h : (r.k = 1 ∧ r.L.length ≤ 3 ∧ r.s = 0 ∧ r.f = 0 ∧ r.t = 0 ∧ r.q = 0) ∨
    (r.k ≠ 1 ∧ 1 ≤ r.k.toNat ∧ r.k.toNat ≤ 4 ∧ r.p = 0 ∧ r.L = [] ∧ r.s = 0 ∧ r.f = 0 ∧ r.t = 0 ∧ r.q = 0) ∨
    (r.k = 5 ∧ r.o = 0 ∧ r.p = 0 ∧ r.L = [] ∧ r.f = 0) ∨ (r.k = 6 ∧ r.o = 0 ∧ r.p = 0 ∧ r.L = []) ∨
    (r.k = 7 ∧ r.o = 0 ∧ r.p = 0 ∧ r.L = [] ∧ r.f = 0 ∧ r.t = 0 ∧ r.q = 0)) : r.plain = true := by
  obtain ⟨k, o, p, L, s, f, t, q⟩ := r
  simp only at h
  unfold ReqP.plain plainF movedF
  rcases h with ⟨rfl, h3, rfl, rfl, rfl, rfl⟩ | ⟨h1, h10, h4, rfl, rfl, rfl, rfl, rfl, rfl⟩ | ⟨rfl, rfl, rfl, rfl, rfl⟩ | ⟨rfl, rfl, rfl, rfl⟩ | ⟨rfl, rfl, rfl, rfl, rfl, rfl, rfl⟩
  · simp [h3]
  · have h4' : (k.toNat : Int) ≤ 4 := by omega
    rw [if_pos h4']
    simp
    omega
  · simp
  · simp
  · simp
theorem body_got {k : UInt8} {l : List UInt8} {x : ReqP} (hk : ¬ (k.toNat < 1 ∨ 7 < k.toNat)) (h : bodyR k l = (x, 0, [])) : x.plain = true ∧ x.ok ∧ k :: l = reqB x := by
  have e7 : ((k.toNat : Int) == 7) = decide (k = 7) := k_eq k 7 (by decide)
  have e5 : ((k.toNat : Int) == 5) = decide (k = 5) := k_eq k 5 (by decide)
  have e6 : ((k.toNat : Int) == 6) = decide (k = 6) := k_eq k 6 (by decide)
  have z0 : i64ok 0 := by unfold i64ok; omega
  unfold bodyR at h
  by_cases h1 : k = 1
  · rw [if_pos h1] at h
    obtain ⟨⟨xo, y1, l1⟩, hx1⟩ : ∃ t, numR 0 l 4 = t := ⟨_, rfl⟩
    rw [hx1] at h
    simp only at h
    obtain ⟨⟨xp, y2, l2⟩, hx2⟩ : ∃ t, numR y1 l1 1 = t := ⟨_, rfl⟩
    rw [hx2] at h
    simp only at h
    obtain ⟨⟨xn, y3, l3⟩, hx3⟩ : ∃ t, numR y2 l2 1 = t := ⟨_, rfl⟩
    rw [hx3] at h
    simp only at h
    by_cases h3 : 3 < xn
    · rw [if_pos h3] at h; cases h
    · rw [if_neg h3] at h
      obtain ⟨⟨M, y4, l4⟩, hx4⟩ : ∃ t, readL xn y3 l3 = t := ⟨_, rfl⟩
      rw [hx4] at h
      cases h
      obtain ⟨rfl, hl, hok, rfl⟩ := readL_got _ _ _ _ _ hx4
      obtain ⟨rfl, rfl, hn⟩ := got_u8 hx3
      obtain ⟨rfl, rfl, hp⟩ := got_u8 hx2
      obtain ⟨_, rfl, ho⟩ := numR_got (n := 4) (by decide) (by decide) hx1
      refine ⟨plain_of _ (.inl ⟨h1, by simp only; omega, rfl, rfl, rfl, rfl⟩), ⟨by simpa using ho, z0, hok⟩, ?_⟩
      unfold reqB
      simp only
      rw [if_pos h1, hl]
      simp
  · rw [if_neg h1] at h
    by_cases h4 : k.toNat ≤ 4
    · rw [if_pos h4] at h
      obtain ⟨⟨xo, y1, l1⟩, hx1⟩ : ∃ t, numR 0 l 4 = t := ⟨_, rfl⟩
      rw [hx1] at h
      cases h
      obtain ⟨_, rfl, ho⟩ := numR_got (n := 4) (by decide) (by decide) hx1
      refine ⟨plain_of _ (.inr (.inl ⟨h1, by simp only; omega, h4, rfl, rfl, rfl, rfl, rfl, rfl⟩)), ⟨by simpa using ho, z0, fun _ h => by cases h⟩, ?_⟩
      unfold reqB
      simp only
      rw [if_neg h1, if_pos h4]
      simp
    · rw [if_neg h4] at h
      by_cases h5 : k = 5
      · rw [if_pos h5] at h
        obtain ⟨⟨xs, y1, l1⟩, hx1⟩ : ∃ t, numR 0 l 1 = t := ⟨_, rfl⟩
        rw [hx1] at h
        simp only at h
        obtain ⟨⟨xt, y2, l2⟩, hx2⟩ : ∃ t, numR y1 l1 1 = t := ⟨_, rfl⟩
        rw [hx2] at h
        simp only at h
        obtain ⟨⟨xq, y3, l3⟩, hx3⟩ : ∃ t, numR y2 l2 8 = t := ⟨_, rfl⟩
        rw [hx3] at h
        cases h
        obtain ⟨rfl, rfl, hq⟩ := numR_got (n := 8) (by decide) (by decide) hx3
        obtain ⟨rfl, rfl, _⟩ := got_u8 hx2
        obtain ⟨_, rfl, _⟩ := got_u8 hx1
        refine ⟨plain_of _ (.inr (.inr (.inl ⟨h5, rfl, rfl, rfl, rfl⟩))), ⟨by simp, ok_wrap _, fun _ h => by cases h⟩, ?_⟩
        unfold reqB
        simp only
        rw [if_neg h1, if_neg h4, if_pos h5, u64n_wrap xq (by simpa using hq)]
        simp
      · rw [if_neg h5] at h
        by_cases h6 : k = 6
        · rw [if_pos h6] at h
          obtain ⟨⟨xs, y1, l1⟩, hx1⟩ : ∃ t, numR 0 l 1 = t := ⟨_, rfl⟩
          rw [hx1] at h
          simp only at h
          obtain ⟨⟨xf, y2, l2⟩, hx2⟩ : ∃ t, numR y1 l1 1 = t := ⟨_, rfl⟩
          rw [hx2] at h
          simp only at h
          obtain ⟨⟨xt, y3, l3⟩, hx3⟩ : ∃ t, numR y2 l2 1 = t := ⟨_, rfl⟩
          rw [hx3] at h
          simp only at h
          obtain ⟨⟨xq, y4, l4⟩, hx4⟩ : ∃ t, numR y3 l3 8 = t := ⟨_, rfl⟩
          rw [hx4] at h
          cases h
          obtain ⟨rfl, rfl, hq⟩ := numR_got (n := 8) (by decide) (by decide) hx4
          obtain ⟨rfl, rfl, _⟩ := got_u8 hx3
          obtain ⟨rfl, rfl, _⟩ := got_u8 hx2
          obtain ⟨_, rfl, _⟩ := got_u8 hx1
          refine ⟨plain_of _ (.inr (.inr (.inr (.inl ⟨h6, rfl, rfl, rfl⟩)))), ⟨by simp, ok_wrap _, fun _ h => by cases h⟩, ?_⟩
          unfold reqB
          simp only
          rw [if_neg h1, if_neg h4, if_neg h5, if_pos h6, u64n_wrap xq (by simpa using hq)]
          simp
        · rw [if_neg h6] at h
          obtain ⟨⟨xs, y1, l1⟩, hx1⟩ : ∃ t, numR 0 l 1 = t := ⟨_, rfl⟩
          rw [hx1] at h
          cases h
          obtain ⟨_, rfl, _⟩ := got_u8 hx1
          have h7 : k = 7 := by
            have h5' : ¬ ((k.toNat : Int) == 5) = true := by rw [e5]; simpa using h5
            have h6' : ¬ ((k.toNat : Int) == 6) = true := by rw [e6]; simpa using h6
            rw [beq_iff_eq] at h5' h6'
            have : ((k.toNat : Int) == 7) = true := by rw [beq_iff_eq]; omega
            rw [e7] at this
            simpa using this
          refine ⟨plain_of _ (.inr (.inr (.inr (.inr ⟨h7, rfl, rfl, rfl, rfl, rfl, rfl⟩)))), ⟨by simp, z0, fun _ h => by cases h⟩, ?_⟩
          unfold reqB
          simp only
          rw [if_neg h1, if_neg h4, if_neg h5, if_neg h6]
          simp
theorem enc_decR {l : List UInt8} {x : ReqP} (h : decR l = (x, 0)) : encR x = (l, 0) ∧ x.plain = true ∧ x.ok := by
  rcases l with _ | ⟨k, rs⟩
  · cases h
  · rw [decR_cons] at h
    by_cases hk : k.toNat < 1 ∨ 7 < k.toNat
    · rw [if_pos hk] at h; cases h
    · rw [if_neg hk] at h
      obtain ⟨⟨y, e, m⟩, hb⟩ : ∃ t, bodyR k rs = t := ⟨_, rfl⟩
      rw [hb] at h
      simp only at h
      by_cases he : endR e m = 0
      · rw [if_neg (by simpa using he)] at h
        cases h
        unfold endR at he
        by_cases h0 : e = 0
        · rw [if_pos h0] at he
          subst h0
          by_cases hm : m = []
          · subst hm
            obtain ⟨h1, h2, h3⟩ := body_got hk hb
            exact ⟨by unfold encR; rw [if_pos h1, h3], h1, h2⟩
          · rw [if_neg hm] at he; cases he
        · rw [if_neg h0] at he; exact absurd he h0
      · rw [if_pos he] at h
        have := (Prod.mk.inj h).2
        exact absurd this he

end Go.Proofs.Ytomnhgcjdnhijaa
