/-
  Plain Lean: what is encoded is decoded as it was, what is decoded may be, and is encoded so.
-/
import Derived.Test.YtomnhgcjdnhijaaScriptLaws
namespace Go.Proofs.Ytomnhgcjdnhijaa
open Go.RowKit
set_option maxRecDepth 100000

theorem numR_put {x n : Nat} (h1 : 1 ≤ n) (h8 : n ≤ 8) (hx : x < 2 ^ (8 * n)) (rest : List UInt8) : numR 0 (numB x n ++ rest) n = (x, 0, rest) := by
  rw [numR_fit h1 h8 (by rw [List.length_append, numB_length]; omega)]
  have ht : (numB x n ++ rest).take n = numB x n := List.take_left' (numB_length x n)
  have hd : (numB x n ++ rest).drop n = rest := List.drop_left' (numB_length x n)
  rw [ht, hd, valN_numB, Nat.mod_eq_of_lt hx]
theorem numR_got {l r : List UInt8} {x n : Nat} (h1 : 1 ≤ n) (h8 : n ≤ 8) (h : numR 0 l n = (x, 0, r)) : l = numB x n ++ r := by
  by_cases hl : l.length < n
  · rw [numR_short h1 h8 hl] at h; cases h
  · rw [numR_fit h1 h8 (by omega)] at h
    cases h
    have := numB_valN (l.take n)
    rw [List.length_take, Nat.min_eq_left (by omega)] at this
    rw [this, List.take_append_drop]
theorem bytesR_put {b : List UInt8} (hb : b.length ≤ 512) (rest : List UInt8) : bytesR 0 (numB b.length 2 ++ b ++ rest) 512 = (b, 0, rest) := by
  unfold bytesR
  rw [List.append_assoc, show numR 0 (numB b.length 2 ++ (b ++ rest)) 2 = _ from numR_put (n := 2) (by decide) (by decide) (by omega) (b ++ rest)]
  simp only
  rw [if_neg (by simp), if_neg (by omega)]
  unfold takeR
  rw [if_neg (by simp), if_neg (by rw [List.length_append]; omega), List.take_left, List.drop_left]
theorem bytesR_got {l b r : List UInt8} (h : bytesR 0 l 512 = (b, 0, r)) : l = numB b.length 2 ++ b ++ r ∧ b.length ≤ 512 := by
  unfold bytesR at h
  obtain ⟨⟨x, e, m⟩, hx⟩ : ∃ t, numR 0 l 2 = t := ⟨_, rfl⟩
  rw [hx] at h
  simp only at h
  by_cases he : e = 0
  · subst he
    rw [if_neg (by simp)] at h
    by_cases h5 : (512 : Int) < x
    · rw [if_pos h5] at h; cases h
    · rw [if_neg h5] at h
      unfold takeR at h
      rw [if_neg (by simp)] at h
      by_cases hl : m.length < x
      · rw [if_pos hl] at h; cases h
      · rw [if_neg hl] at h
        cases h
        have hk : (m.take x).length = x := by rw [List.length_take]; omega
        rw [hk, List.append_assoc, List.take_append_drop]
        exact ⟨numR_got (n := 2) (by decide) (by decide) hx, by omega⟩
  · rw [if_pos he] at h
    cases h
    exact absurd rfl he
theorem evR_put {e : EvP} (hg : e.good = true) (ok : e.ok) (rest : List UInt8) : ∃ pay, oneB e = e.k :: pay ∧ evR e.k (pay ++ rest) = (e, 0, rest) ∧ ¬ (e.k.toNat < 1 ∨ 8 < e.k.toNat) := by
  have hlen := good_len hg
  have hpt := good_nums hg
  have hs := ok.s
  obtain ⟨k, s, p, t, b⟩ := e
  simp only at hlen hpt hs
  unfold EvP.good goodE at hg
  simp only [Bool.and_eq_true, Bool.or_eq_true, decide_eq_true_eq, beq_iff_eq] at hg
  obtain ⟨⟨⟨⟨⟨g1, g2⟩, g3⟩, _⟩, g5⟩, g6⟩ := hg
  have hk : ¬ (k.toNat < 1 ∨ 8 < k.toNat) := by omega
  have e1 := k_eq k 1 (by decide)
  have e7 := k_eq k 7 (by decide)
  have e2 := k_eq k 2 (by decide)
  have e3 := k_eq k 3 (by decide)
  refine ⟨_, rfl, ?_, hk⟩
  simp only
  unfold evR
  by_cases h1 : k = 1
  · have h7 : ¬ (k.toNat : Int) = 7 := by rw [h1]; decide
    have hn : namedE (k.toNat : Int) = false := by rw [h1]; decide
    rw [if_pos h1, if_pos h1, bytesR_put hlen]
    rw [if_neg h7] at g6
    rw [hn] at g5
    simp at g5 g6
    obtain ⟨rfl, rfl⟩ := g6
    subst g5
    rfl
  · rw [if_neg h1, if_neg h1]
    have hb : b = [] := by
      rcases g3 with g3 | g3
      · exfalso
        rw [show ((1 : Nat) : Int) = 1 from rfl] at e1
        have : decide (k = 1) = true := by rw [show decide (k = 1) = decide (k = UInt8.ofNat 1) from rfl, ← e1]; simpa using g3
        exact h1 (by simpa using this)
      · exact List.length_eq_zero_iff.1 g3
    subst hb
    by_cases h2 : k = 2 ∨ k = 3
    · have h7 : ¬ (k.toNat : Int) = 7 := by rcases h2 with h | h <;> rw [h] <;> decide
      rw [if_pos h2, if_pos h2, show numR 0 (numB s 4 ++ rest) 4 = _ from numR_put (n := 4) (by decide) (by decide) (by omega) rest]
      rw [if_neg h7] at g6
      simp at g6
      obtain ⟨rfl, rfl⟩ := g6
      rfl
    · rw [if_neg h2, if_neg h2]
      have hn : namedE (k.toNat : Int) = false := by
        have hk2 : ¬ k = 2 := fun h => h2 (.inl h)
        have hk3 : ¬ k = 3 := fun h => h2 (.inr h)
        unfold namedE
        rw [show ((k.toNat : Int) == 2) = decide (k = 2) from e2, show ((k.toNat : Int) == 3) = decide (k = 3) from e3]
        simp [hk2, hk3]
      rw [hn] at g5
      simp at g5
      subst g5
      by_cases h7 : k = 7
      · obtain ⟨p0, p1, t0, t1⟩ := hpt h7
        rw [if_pos h7, if_pos h7, List.append_assoc, show numR 0 (numB p.toNat 2 ++ (numB t.toNat 2 ++ rest)) 2 = _ from numR_put (n := 2) (by decide) (by decide) (by omega) _]
        simp only
        rw [show numR 0 (numB t.toNat 2 ++ rest) 2 = _ from numR_put (n := 2) (by decide) (by decide) (by omega) _]
        simp only
        rw [show ((p.toNat : Nat) : Int) = p by omega, show ((t.toNat : Nat) : Int) = t by omega]
      · have h7' : ¬ (k.toNat : Int) = 7 := by
          intro h
          have : decide (k = 7) = true := by rw [show decide (k = 7) = decide (k = UInt8.ofNat 7) from rfl, ← e7]; simpa using h
          exact h7 (by simpa using this)
        rw [if_neg h7, if_neg h7]
        rw [if_neg h7'] at g6
        simp at g6
        obtain ⟨rfl, rfl⟩ := g6
        rfl
theorem decF_put : ∀ (L : List EvP) (acc : List EvP), L.all EvP.good = true → (∀ e ∈ L, e.ok) → decF L.length (allB L) acc = (acc ++ L, 0) := by
  intro L
  induction L with
  | nil => intro acc _ _; simp [allB, decF]
  | cons e L ih =>
    intro acc hg ok
    rw [List.all_cons, Bool.and_eq_true] at hg
    obtain ⟨pay, h1, h2, h3⟩ := evR_put hg.1 (ok e (List.mem_cons_self ..)) (allB L)
    have : allB (e :: L) = e.k :: (pay ++ allB L) := by
      unfold allB
      rw [List.map_cons, List.flatten_cons, h1]
      rfl
    rw [this, List.length_cons, decF_cons, if_neg h3, h2, if_neg (by simp)]
    simp only
    rw [ih _ hg.2 (fun x hx => ok x (List.mem_cons_of_mem _ hx)), List.append_assoc]
    rfl
theorem dec_encE {L : List EvP} (hg : L.all EvP.good = true) (ok : ∀ e ∈ L, e.ok) (hl : L.length ≤ 1024) : decE (numB L.length 2 ++ allB L) = (L, 0) := by
  have h := numR_put (n := 2) (x := L.length) (by decide) (by decide) (by omega) (allB L)
  rw [numR_fit (n := 2) (by decide) (by decide) (by rw [List.length_append, numB_length]; omega)] at h
  unfold decE
  rw [if_neg (by rw [List.length_append, numB_length]; omega), show valN ((numB L.length 2 ++ allB L).take 2) = L.length from congrArg Prod.fst h, show (numB L.length 2 ++ allB L).drop 2 = allB L from congrArg (fun t => t.2.2) h, if_neg (by omega), decF_put L [] hg ok]
  rfl
theorem evR_got {k : UInt8} {r l2 : List UInt8} {e : EvP} (hk : ¬ (k.toNat < 1 ∨ 8 < k.toNat)) (h : evR k r = (e, 0, l2)) : e.good = true ∧ e.ok ∧ k :: r = oneB e ++ l2 := by
  have e1 := k_eq k 1 (by decide)
  have e7 := k_eq k 7 (by decide)
  have e2 := k_eq k 2 (by decide)
  have e3 := k_eq k 3 (by decide)
  have hlo : (1 : Int) ≤ (k.toNat : Int) := by omega
  have hhi : (k.toNat : Int) ≤ 8 := by omega
  unfold evR at h
  by_cases h1 : k = 1
  · rw [if_pos h1] at h
    obtain ⟨⟨b, y, m⟩, hb⟩ : ∃ t, bytesR 0 r 512 = t := ⟨_, rfl⟩
    rw [hb] at h
    cases h
    obtain ⟨g1, g2⟩ := bytesR_got hb
    refine ⟨?_, ⟨by simp, by simp, by simp⟩, ?_⟩
    · subst h1
      unfold EvP.good goodE
      simp [namedE, g2]
    · unfold oneB
      simp only
      rw [if_pos h1, g1]
      rfl
  · rw [if_neg h1] at h
    by_cases h2 : k = 2 ∨ k = 3
    · rw [if_pos h2] at h
      have hlt := numR_less 0 r 4 (by decide) (by decide)
      obtain ⟨⟨x, y, m⟩, hb⟩ : ∃ t, numR 0 r 4 = t := ⟨_, rfl⟩
      rw [show numR 0 r ((4 : Nat) : Int) = numR 0 r 4 from rfl, hb] at hlt
      rw [hb] at h
      cases h
      have g1 := numR_got (n := 4) (by decide) (by decide) hb
      refine ⟨?_, ⟨by simpa using hlt, by simp, by simp⟩, ?_⟩
      · rcases h2 with h2 | h2 <;> subst h2 <;> unfold EvP.good goodE <;> simp [namedE]
      · unfold oneB
        simp only
        rw [if_neg h1, if_pos h2, g1]
        rfl
    · rw [if_neg h2] at h
      by_cases h7 : k = 7
      · rw [if_pos h7] at h
        have hlt := numR_less 0 r 2 (by decide) (by decide)
        obtain ⟨⟨x, y, m⟩, hb⟩ : ∃ t, numR 0 r 2 = t := ⟨_, rfl⟩
        rw [show numR 0 r ((2 : Nat) : Int) = numR 0 r 2 from rfl, hb] at hlt
        rw [hb] at h
        simp only at h hlt
        have hlt2 := numR_less y m 2 (by decide) (by decide)
        obtain ⟨⟨z, y2, m2⟩, hc⟩ : ∃ t, numR y m 2 = t := ⟨_, rfl⟩
        rw [show numR y m ((2 : Nat) : Int) = numR y m 2 from rfl, hc] at hlt2
        rw [hc] at h
        simp only at hlt2
        cases h
        by_cases hy : y = 0
        · subst hy
          have g1 := numR_got (n := 2) (by decide) (by decide) hb
          have g2 := numR_got (n := 2) (by decide) (by decide) hc
          refine ⟨?_, ⟨by simp, by constructor <;> simp only <;> omega, by constructor <;> simp only <;> omega⟩, ?_⟩
          · subst h7
            unfold EvP.good goodE
            simp [namedE]
            omega
          · unfold oneB
            simp only
            rw [if_neg h1, if_neg h2, if_pos h7, g1, g2]
            simp
        · rw [show numR y m 2 = _ from numR_ill hy m (n := 2) (by decide) (by decide)] at hc
          cases hc
          exact absurd rfl hy
      · rw [if_neg h7] at h
        cases h
        refine ⟨?_, ⟨by simp, by simp, by simp⟩, ?_⟩
        · have h7' : ¬ (k.toNat : Int) = 7 := by
            intro h
            have : decide (k = 7) = true := by rw [show decide (k = 7) = decide (k = UInt8.ofNat 7) from rfl, ← e7]; simpa using h
            exact h7 (by simpa using this)
          unfold EvP.good goodE
          simp [h7']
          omega
        · unfold oneB
          simp only
          rw [if_neg h1, if_neg h2, if_neg h7]
          rfl
theorem decF_got : ∀ (n : Nat) (l : List UInt8) (acc R : List EvP), decF n l acc = (R, 0) → ∃ M, R = acc ++ M ∧ M.length = n ∧ M.all EvP.good = true ∧ (∀ e ∈ M, e.ok) ∧ l = allB M := by
  intro n
  induction n with
  | zero =>
    intro l acc R h
    unfold decF at h
    by_cases hl : l = []
    · rw [if_pos hl] at h
      cases h
      exact ⟨[], by simp, rfl, rfl, (fun _ h => by cases h), by rw [hl]; rfl⟩
    · rw [if_neg hl] at h
      cases h
  | succ n ih =>
    intro l acc R h
    cases l with
    | nil => cases h
    | cons k r =>
      rw [decF_cons] at h
      by_cases hk : k.toNat < 1 ∨ 8 < k.toNat
      · rw [if_pos hk] at h; cases h
      · rw [if_neg hk] at h
        obtain ⟨⟨e, y, l2⟩, he⟩ : ∃ t, evR k r = t := ⟨_, rfl⟩
        rw [he] at h
        simp only at h
        by_cases hy : y = 0
        · subst hy
          rw [if_neg (by simp)] at h
          obtain ⟨M, h1, h2, h3, h4, h5⟩ := ih _ _ _ h
          obtain ⟨g1, g2, g3⟩ := evR_got hk he
          refine ⟨e :: M, by rw [h1]; simp, by simp [h2], by rw [List.all_cons, g1, h3]; rfl, fun x hx => ?_, ?_⟩
          · rcases List.mem_cons.1 hx with rfl | hx
            · exact g2
            · exact h4 x hx
          · rw [g3, h5]
            unfold allB
            rw [List.map_cons, List.flatten_cons]
        · rw [if_pos hy] at h
          cases h
          exact absurd rfl hy
theorem enc_decE {l : List UInt8} {M : List EvP} (h : decE l = (M, 0)) : encE M = (l, 0) ∧ M.all EvP.good = true ∧ (∀ e ∈ M, e.ok) ∧ M.length ≤ 1024 := by
  unfold decE at h
  by_cases h2 : l.length < 2
  · rw [if_pos h2] at h; cases h
  · rw [if_neg h2] at h
    by_cases h3 : 1024 < valN (l.take 2)
    · rw [if_pos h3] at h; cases h
    · rw [if_neg h3] at h
      obtain ⟨M', h4, h5, h6, h7, h8⟩ := decF_got _ _ _ _ h
      rw [List.nil_append] at h4
      subst h4
      refine ⟨?_, h6, h7, by omega⟩
      unfold encE
      rw [if_pos h6, if_neg (by omega), h5, ← h8]
      have := numB_valN (l.take 2)
      rw [List.length_take, Nat.min_eq_left (by omega)] at this
      rw [this, List.take_append_drop]

end Go.Proofs.Ytomnhgcjdnhijaa
