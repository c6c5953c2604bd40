/-
  FrameCuts: plain law.
-/
import Derived.Test.YthpoccjlhcpoiaaDoorFrameFramed
namespace Go.Proofs.YthpoccjlhcpoiaaDoor
open Go.RowKit

theorem take2_frame (p r : List UInt8) : (frameB p ++ r).take 2 = numB p.length 2 := by
  unfold frameB
  rw [List.append_assoc, List.append_assoc, List.take_append_of_le_length (by simp [numB_length]), List.take_of_length_le (by simp [numB_length])]
theorem drop2_frame (p r : List UInt8) : ((frameB p ++ r).drop 2).take 4 = numB (sumN p) 4 := by
  unfold frameB
  rw [List.append_assoc, List.append_assoc, List.drop_append_of_le_length (by simp [numB_length]), List.drop_of_length_le (by simp [numB_length]), List.nil_append, List.take_append_of_le_length (by simp [numB_length]), List.take_of_length_le (by simp [numB_length])]
theorem drop6_frame (p r : List UInt8) : (frameB p ++ r).drop 6 = p ++ r := by
  unfold frameB
  rw [List.append_assoc, List.drop_append_of_le_length (by simp [numB_length]), List.drop_of_length_le (by simp [numB_length]), List.nil_append]
theorem fits_iff {p : List UInt8} : fits p = true ↔ 1 ≤ p.length ∧ p.length ≤ 512 := by simp [fits]
theorem next_frame {p : List UInt8} (hp : fits p = true) (r : List UInt8) : nextF (frameB p ++ r) = (p, 6 + p.length, 0) := by
  obtain ⟨h1, h2⟩ := fits_iff.1 hp
  unfold nextF
  rw [take2_frame, drop2_frame, drop6_frame, valN_numB, Nat.mod_eq_of_lt (show p.length < 2 ^ (8 * 2) by omega), valN_numB, Nat.mod_eq_of_lt (show sumN p < 2 ^ (8 * 4) from sumN_lt p), List.length_append, frameB_length, if_neg (by omega), if_neg (by omega), if_neg (by omega), List.take_left, if_neg (by simp)]
theorem next_short {p : List UInt8} (hp : fits p = true) (n : Nat) (hn : n < 6 + p.length) : nextF ((frameB p).take n) = ([], 0, 6) := by
  obtain ⟨h1, h2⟩ := fits_iff.1 hp
  unfold nextF
  have hl : ((frameB p).take n).length = n := by rw [List.length_take, frameB_length]; omega
  rw [hl]
  by_cases h6 : n < 6
  · rw [if_pos h6]
  · rw [if_neg h6, List.take_take, Nat.min_eq_left (by omega)]
    have := take2_frame p []
    rw [List.append_nil] at this
    rw [this, valN_numB, Nat.mod_eq_of_lt (show p.length < 2 ^ (8 * 2) by omega), if_neg (by omega), if_pos (by omega)]

/-- how many frames are whole, and where the last whole one ends -/
def wholeF : List (List UInt8) → Nat → Nat × Nat
  | [], _ => (0, 0)
  | p :: ps, n => if 6 + p.length ≤ n then ((wholeF ps (n - (6 + p.length))).1 + 1, (wholeF ps (n - (6 + p.length))).2 + (6 + p.length)) else (0, 0)

theorem cuts_law : ∀ (ps : List (List UInt8)), (∀ p ∈ ps, fits p = true) → ∀ n, n ≤ (allF ps).length →
    scanF ((allF ps).take n) = (ps.take (wholeF ps n).1, (wholeF ps n).2, if (wholeF ps n).2 < n then 6 else 0) := by
  intro ps
  induction ps with
  | nil =>
    intro _ n hn
    have h0 : n = 0 := by simpa [allF] using hn
    subst h0
    rw [scanF_nil (by simp)]
    simp [wholeF]
  | cons p ps ih =>
    intro h n hn
    have hp := h p (List.mem_cons_self ..)
    have hq := fun q hq => h q (List.mem_cons_of_mem p hq)
    have hall : allF (p :: ps) = frameB p ++ allF ps := by unfold allF; rw [List.flatMap_cons]
    rw [hall] at hn ⊢
    rw [List.length_append, frameB_length] at hn
    rw [wholeF]
    by_cases hw : 6 + p.length ≤ n
    · rw [if_pos hw]
      have hcut : (frameB p ++ allF ps).take n = frameB p ++ (allF ps).take (n - (6 + p.length)) := by
        rw [List.take_append, frameB_length, List.take_of_length_le (by rw [frameB_length]; exact hw)]
      rw [hcut, scanF_ok (next_frame hp _)]
      have hd : (frameB p ++ (allF ps).take (n - (6 + p.length))).drop (6 + p.length) = (allF ps).take (n - (6 + p.length)) := by
        rw [← frameB_length, List.drop_left]
      rw [hd, ih hq (n - (6 + p.length)) (by omega)]
      simp only
      refine Prod.ext ?_ (Prod.ext ?_ ?_)
      · simp
      · simp only; omega
      · simp only
        by_cases hx : (wholeF ps (n - (6 + p.length))).2 < n - (6 + p.length)
        · rw [if_pos hx, if_pos (by omega)]
        · rw [if_neg hx, if_neg (by omega)]
    · rw [if_neg hw]
      have hcut : (frameB p ++ allF ps).take n = (frameB p).take n := by
        rw [List.take_append_of_le_length (by rw [frameB_length]; omega)]
      rw [hcut]
      by_cases h0 : n = 0
      · subst h0
        rw [scanF_nil (by simp)]
        simp
      · rw [scanF_bad (by rw [List.length_take, frameB_length]; omega) (next_short hp n (by omega)) (by decide)]
        simp only [List.take_zero]
        rw [if_pos (by omega)]


theorem allF_take (ps : List (List UInt8)) {i j : Nat} (h : i ≤ j) : (allF (ps.take i)).length ≤ (allF (ps.take j)).length := by
  have e : ps.take j = ps.take i ++ (ps.take j).drop i := by
    conv => lhs; rw [← List.take_append_drop i (ps.take j)]
    rw [List.take_take, Nat.min_eq_left h]
  rw [e]
  unfold allF
  rw [List.flatMap_append, List.length_append]
  omega
theorem whole_spec : ∀ (ps : List (List UInt8)) (n : Nat), (wholeF ps n).1 ≤ ps.length ∧ (wholeF ps n).2 = (allF (ps.take (wholeF ps n).1)).length ∧ (wholeF ps n).2 ≤ n ∧ ((wholeF ps n).1 < ps.length → n < (allF (ps.take ((wholeF ps n).1 + 1))).length) := by
  intro ps
  induction ps with
  | nil => intro n; simp [wholeF, allF]
  | cons p ps ih =>
    intro n
    rw [wholeF]
    by_cases hw : 6 + p.length ≤ n
    · rw [if_pos hw]
      obtain ⟨h1, h2, h3, h4⟩ := ih (n - (6 + p.length))
      have ha : ∀ k, (allF ((p :: ps).take (k + 1))).length = 6 + p.length + (allF (ps.take k)).length := by
        intro k
        unfold allF
        rw [List.take_succ_cons, List.flatMap_cons, List.length_append, frameB_length]
      simp only [List.length_cons]
      rw [ha, ha]
      refine ⟨by omega, by omega, by omega, fun h => ?_⟩
      have := h4 (by omega)
      omega
    · rw [if_neg hw]
      have ha : (allF ((p :: ps).take (0 + 1))).length = 6 + p.length := by
        unfold allF
        rw [List.take_succ_cons, List.take_zero, List.flatMap_cons, List.flatMap_nil, List.append_nil, frameB_length]
      refine ⟨Nat.zero_le _, by simp [allF], Nat.zero_le _, fun _ => ?_⟩
      rw [ha]
      omega
/-- what the loop has seen of the first k ends -/
def cutL (ps : List (List UInt8)) (n : Nat) : Nat → Nat × Nat
  | 0 => (0, 0)
  | k + 1 => if (allF (ps.take (k + 1))).length ≤ n then (k + 1, (allF (ps.take (k + 1))).length) else cutL ps n k
theorem cutL_le (ps : List (List UInt8)) (n k : Nat) : (cutL ps n k).1 ≤ k := by
  induction k with
  | zero => exact Nat.le_refl _
  | succ k ih =>
    rw [cutL]
    split
    · exact Nat.le_refl _
    · omega
theorem cutL_whole (ps : List (List UInt8)) (n : Nat) : cutL ps n ps.length = wholeF ps n := by
  obtain ⟨h1, h2, h3, h4⟩ := whole_spec ps n
  have up : ∀ k, k ≤ (wholeF ps n).1 → cutL ps n k = (k, (allF (ps.take k)).length) := by
    intro k hk
    cases k with
    | zero => simp [cutL, allF]
    | succ k =>
      rw [cutL, if_pos]
      exact Nat.le_trans (allF_take ps hk) (by omega)
  have dn : ∀ d, (wholeF ps n).1 + d ≤ ps.length → cutL ps n ((wholeF ps n).1 + d) = cutL ps n (wholeF ps n).1 := by
    intro d
    induction d with
    | zero => intro _; rfl
    | succ d ih =>
      intro hd
      rw [← Nat.add_assoc, cutL, if_neg, ih (by omega)]
      have := h4 (by omega)
      have := allF_take ps (show (wholeF ps n).1 + 1 ≤ (wholeF ps n).1 + d + 1 by omega)
      omega
  have := dn (ps.length - (wholeF ps n).1) (by omega)
  rw [Nat.add_sub_cancel' h1] at this
  rw [this, up _ (Nat.le_refl _), ← h2]

theorem endsF_get (ps : List (List UInt8)) (k : Nat) (hk : k < ps.length) : ((endsF ps).map fun (n : Nat) => Value.int .i64 (n : Int))[k]'(by simp [endsF]; exact hk) = .int .i64 ((allF (ps.take (k + 1))).length : Int) := by
  simp [endsF]

set_option maxRecDepth 100000 in
set_option maxHeartbeats 3200000 in
theorem frameCuts_walk (a : Option Addr) (len cap : Nat) (A : Nat → SliceV) (x : Int) (w : World) (hx : 0 ≤ x ∧ x ≤ 65535) (hl : len ≤ maxLen) (hA : ∀ i, i < len → SliceAt w a i (A i)) (hT : Tab w) :
    Calls Tryd.prog 5 #[.slice a len cap, .int .u16 x] w fun r w' => r = .returned (.bool true) ∧ Below w.heap.size w w' := by
  have HT := Lib.hid hT
  have HC := Lib.hid (frame_framed a len cap A w hl hA hT)
  have hfit := goods_fits A (min len 12)
  have hfew := goods_length A (min len 12)
  generalize goods A (min len 12) = ps at *
  have hps : ps.length ≤ 12 := by omega
  have hall : (allF ps).length ≤ 6216 := Nat.le_trans (allF_length hfit) (by omega)
  have HFIT := Lib.hid hfit
  clear hA hT hl hfit hfew
  obtain ⟨x0, x1⟩ := hx
  go_enter Tryd.func5, Tryd.ntmps5
  go_wp2_with fail
  refine HC.out.mono ?_
  rintro r w1 ⟨va, vp, ve, xs, rfl, T⟩
  obtain ⟨aA, nA, cA, rfl, hnA⟩ := T.a.len
  obtain ⟨aP, nP, cP, rfl, hnP⟩ := T.p.len
  obtain ⟨aE, nE, cE, rfl, hnE⟩ := T.e.len
  have hnE' : nE = ps.length := by rw [← hnE]; simp [endsF]
  have hnP' : nP = ps.length := by rw [← hnP]; exact T.s.1
  subst hnE' hnP'
  have HTH := Lib.hid T
  have HNA := Lib.hid hnA
  have hA6 : nA ≤ 6216 := by rw [← hnA]; exact hall
  clear T hnA hnP hnE hall HC
  have HCA := Lib.hid (show nA ≤ cA ∧ cA ≤ maxLen by
    rcases HTH.out.a.2 with ⟨hv, _⟩ | ⟨q, cp, cur, hv, _, _, hnc, hcm, _⟩
    · cases hv; exact ⟨Nat.le_refl _, by simp [maxLen]⟩
    · cases hv; exact ⟨hnc, hcm⟩)
  have HCP := Lib.hid (show ps.length ≤ cP by
    rcases HTH.out.p.2 with ⟨hv, _⟩ | ⟨q, cp, cur, hv, _, _, hnc, hcm, _⟩
    · obtain ⟨_, h1, h2⟩ := Value.slice.inj hv; omega
    · obtain ⟨_, h1, h2⟩ := Value.slice.inj hv; omega)
  obtain ⟨n, hmod, hnA⟩ : ∃ n : Nat, x % ((nA : Int) + 1) = (n : Int) ∧ n ≤ nA := ⟨(x % ((nA : Int) + 1)).toNat, by
    have := Int.emod_nonneg x (show (nA : Int) + 1 ≠ 0 by omega)
    omega, by
    have := Int.emod_lt_of_pos x (show (0 : Int) < (nA : Int) + 1 by omega)
    omega⟩
  go_wp2_with fail
  go_loopw [9, 10, 11] (fun vw vl i wr => ∃ k : Nat, k ≤ ps.length ∧ i = .int .i64 k ∧ vw = .int .i64 ((cutL ps n k).1 : Nat) ∧ vl = .int .i64 ((cutL ps n k).2 : Nat) ∧ w1.grownBy wr none) (fun _ _ i _ => ps.length - (intOf i).toNat)
  case atStart => exact ⟨0, Nat.zero_le _, rfl, rfl, rfl, World.grownBy.refl _ _⟩
  case round =>
    obtain ⟨k, hk, rfl, rfl, rfl, hg⟩ := hrel
    have HG := Lib.hid hg
    clear hg
    by_cases hlt : k < ps.length
    · obtain ⟨ge, rfl, _, hce⟩ := HTH.out.e.cell k (by simp [endsF]; exact hlt)
      rw [endsF_get ps k hlt] at hce
      have hcut : cutL ps n (k + 1) = if (allF (ps.take (k + 1))).length ≤ n then (k + 1, (allF (ps.take (k + 1))).length) else cutL ps n k := rfl
      obtain ⟨E, hE⟩ : ∃ E, (allF (ps.take (k + 1))).length = E := ⟨_, rfl⟩
      rw [hE] at hce hcut
      have d0 := grown_cell HG.out hce
      have HCUT := Lib.hid hcut
      have hE6 : E ≤ 6216 := by
        rw [← hE]
        have := allF_take ps (show k + 1 ≤ ps.length by omega)
        rw [List.take_length] at this
        have h2 := HNA.out
        omega
      clear hce hcut hE
      have i0 : (0 : Int) ≤ (k : Int) := by omega
      have i1 : (k : Int) < (ps.length : Int) := by omega
      by_cases hEn : (E : Int) ≤ (n : Int)
      · go_wp2_with fail
        go_quiet (fail)
        go_wp2_with fail
        exact ⟨⟨k + 1, by omega, by go_num, by rw [HCUT.out, if_pos (by omega)]; simp, by rw [HCUT.out, if_pos (by omega)], grown_trans HG.out (grown_drewN _ _)⟩, by simp only [intOf]; omega⟩
      · go_wp2_with fail
        exact ⟨⟨k + 1, by omega, by go_num, by rw [HCUT.out, if_neg (by omega)], by rw [HCUT.out, if_neg (by omega)], HG.out⟩, by simp only [intOf]; omega⟩
    · obtain hkl : k = ps.length := by omega
      have hcw := cutL_whole ps n
      rw [← hkl] at hcw
      rw [hcw]
      clear hcw
      obtain ⟨hw1, hw2, hw3, hw4⟩ := whole_spec ps n
      have hlaw := cuts_law ps HFIT.out n (by rw [HNA.out]; exact hnA)
      obtain ⟨⟨m, e⟩, hme⟩ : ∃ t, wholeF ps n = t := ⟨_, rfl⟩
      rw [hme] at hw1 hw2 hw3 hlaw ⊢
      simp only at hw1 hw2 hw3 hlaw ⊢
      obtain ⟨z, hz⟩ : ∃ z : Int, (if e < n then (6 : Int) else 0) = z := ⟨_, rfl⟩
      rw [hz] at hlaw
      have HLAW := Lib.hid hlaw
      have HZ := Lib.hid hz
      clear hz
      clear hw2 hw4 hlaw hme hkl
      have n0 : (0 : Int) ≤ (n : Int) := by omega
      have n1 : (n : Int) ≤ (nA : Int) := by omega
      have n2 : (n : Int) ≤ (cA : Int) := by have := HCA.out.1; omega
      have m0 : (0 : Int) ≤ (m : Int) := by omega
      have m1 : (m : Int) ≤ (ps.length : Int) := by omega
      have m2 : (m : Int) ≤ (cP : Int) := by have := HCP.out; omega
      have HRS := Lib.hid (show RS wr (fun _ => False) aA n cA ((allF ps).take n) from ⟨by rw [List.length_take, HNA.out]; omega, by omega, HCA.out.2, RX.of_rb (((RB.of_own HTH.out.a).old (grown_below HG.out)).take n) (fun _ _ _ h => h)⟩)
      have HGW := Lib.hid (grown_trans HTH.out.g HG.out)
      have HRP := Lib.hid (((RVB.of_own HTH.out.p (HTH.out.s.weaken (X' := fun _ => False) (fun _ h => h.elim)) (fun _ _ h => h)).kept (Kept.of_grown HG.out)).take m)
      go_wp2_with fail
      refine (frame_scan aA n cA _ wr HRS.out (by omega) (HT.out.grown HGW.out)).mono ?_
      rw [HLAW.out]
      rintro r w2 ⟨a2, n2', c2, rfl, hn2, hb, hg⟩
      have HB2 := Lib.hid hb; have HG2 := Lib.hid (grown_trans HGW.out hg); have HRP2 := Lib.hid (HRP.out.kept (Kept.of_grown hg))
      have hn2m : n2' = m := by rw [← hn2]; simp only [List.length_take]; omega
      subst hn2m
      simp only at HB2
      clear hb hg hn2
      by_cases hen : (e : Int) < (n : Int)
      · obtain rfl : z = 6 := by rw [← HZ.out, if_pos (by omega)]
        go_wp2_with fail
        refine (frame_same a2 n2' c2 aP cP (ps.take n2') w2 (by rw [List.length_take]; omega) (by omega) HB2.out.rvb HRP2.out).mono ?_
        rintro r w3 ⟨rfl, hg⟩
        have HG3 := Lib.hid (grown_trans HG2.out hg)
        clear hg
        go_wp2_with fail
        refine (frame_works _ (HT.out.grown HG3.out)).mono ?_
        rintro r w4 ⟨rfl, hg⟩
        have HG4 := Lib.hid (grown_trans HG3.out hg)
        clear hg
        go_wp2_with fail
        go_ret
        exact ⟨rfl, grown_below HG4.out⟩
      · obtain rfl : z = 0 := by rw [← HZ.out, if_neg (by omega)]
        go_wp2_with fail
        refine (frame_same a2 n2' c2 aP cP (ps.take n2') w2 (by rw [List.length_take]; omega) (by omega) HB2.out.rvb HRP2.out).mono ?_
        rintro r w3 ⟨rfl, hg⟩
        have HG3 := Lib.hid (grown_trans HG2.out hg)
        clear hg
        go_wp2_with fail
        refine (frame_works _ (HT.out.grown HG3.out)).mono ?_
        rintro r w4 ⟨rfl, hg⟩
        have HG4 := Lib.hid (grown_trans HG3.out hg)
        clear hg
        go_wp2_with fail
        go_ret
        exact ⟨rfl, grown_below HG4.out⟩

end Go.Proofs.YthpoccjlhcpoiaaDoor
