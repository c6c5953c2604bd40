/-
  All keys, by the program.
-/
import Derived.Test.YtfmcbnoldcfcbaaCAll
namespace Go.Proofs.Ytfmcbnoldcfcbaa
open Go.RowKit
set_option maxRecDepth 100000

def perK (q kd : Nat) : Nat := if kd ≤ 2 then q else 1
def kindK (q kd : Nat) (m : Nat) : List KeyP := (List.range m).map fun i => (UInt8.ofNat kd, UInt8.ofNat (i / perK q kd), UInt8.ofNat (i % perK q kd))
def allK (p q : Nat) : Nat → List KeyP
  | 0 => []
  | t + 1 => allK p q t ++ kindK q (t + 1) (p * perK q (t + 1))
theorem allK_keys {p q : Nat} (hp : 1 ≤ p ∧ p ≤ 4) (hq : 1 ≤ q ∧ q ≤ 4) : allK p q 4 = keysF (p : Int) (q : Int) := by
  have h1 : p = 1 ∨ p = 2 ∨ p = 3 ∨ p = 4 := by omega
  have h2 : q = 1 ∨ q = 2 ∨ q = 3 ∨ q = 4 := by omega
  rcases h1 with rfl | rfl | rfl | rfl <;> rcases h2 with rfl | rfl | rfl | rfl <;> decide +kernel
theorem keysF_none {s v : Int} (h : fineF s v = false) : keysF s v = [] := by
  have hg : ∀ k, goodK s v k = false := fun k => by
    unfold goodK
    rw [decide_eq_false_iff_not]
    rintro ⟨h1, h2, h3, h4, _⟩
    simp [fineF, btw] at h
    omega
  have : ∀ t, keysUpto s v t = [] := by
    intro t
    induction t with
    | zero => rfl
    | succ t ih => unfold keysUpto; rw [ih, hg]; rfl
  exact this 64
theorem both_at (n : Nat) (hn : n < 256) (w : World) : Calls Try.prog 68 #[.int .u8 (n : Int)] w fun r w' => r = .returned (.bool (decide (n ≤ 2 ∧ 1 ≤ n))) ∧ w' = w := by
  have h := key_both (UInt8.ofNat n) w
  have e : (UInt8.ofNat n).toNat = n := by simp; omega
  rw [e] at h
  have e2 : decide (n ≤ 2 ∧ 1 ≤ n) = decide (n = 1 ∨ n = 2) := by
    rw [decide_eq_decide]; omega
  rw [e2]
  exact h
def KAllRel (w : World) (p q : Nat) (out i : Value) (wr : World) : Prop :=
  ∃ k : Nat, k ≤ 4 ∧ i = .int .u8 ((k : Int) + 1) ∧ OwnR wr w.heap.size 66 3 out ((allK p q k).map keyCells) ∧ w.grownBy wr none
def KInRel (w : World) (p q k M : Nat) (out i : Value) (wr : World) : Prop :=
  ∃ m : Nat, m ≤ M ∧ i = .int .i64 m ∧ OwnR wr w.heap.size 66 3 out ((allK p q k ++ kindK q (k + 1) m).map keyCells) ∧ w.grownBy wr none
theorem kindK_snoc (q kd m : Nat) : kindK q kd (m + 1) = kindK q kd m ++ [(UInt8.ofNat kd, UInt8.ofNat (m / perK q kd), UInt8.ofNat (m % perK q kd))] := by
  unfold kindK
  rw [List.range_succ, List.map_append]
  rfl
theorem kindK_len (q kd m : Nat) : (kindK q kd m).length = m := by unfold kindK; simp
theorem allK_len (p q : Nat) (hp : p ≤ 4) (hq : 1 ≤ q ∧ q ≤ 4) : ∀ t, (allK p q t).length ≤ 16 * t
  | 0 => Nat.le_refl _
  | t + 1 => by
    have h := allK_len p q hp hq t
    unfold allK
    rw [List.length_append, kindK_len]
    have h2 : perK q (t + 1) ≤ 4 := by unfold perK; split <;> omega
    have : p * perK q (t + 1) ≤ 16 := Nat.le_trans (Nat.mul_le_mul hp h2) (by decide)
    omega
set_option maxHeartbeats 12800000 in
theorem key_all2 (s v : Int) (w : World) : Calls Try.prog 53 #[.int .i64 s, .int .i64 v] w (KeysPost2 w (keysF s v)) := by
  obtain ⟨t, ht⟩ : ∃ t, fineF s v = t := ⟨_, rfl⟩
  have HF := Lib.hid (show Calls Try.prog 67 #[.int .i64 s, .int .i64 v] w fun r w' => r = .returned (.bool t) ∧ w' = w by rw [← ht]; exact key_fine s v w)
  cases t
  · rw [keysF_none ht]
    clear ht
    go_enter Try.func53, Try.ntmps53
    go_wp2_with (go_at_call 67; with_reducible refine HF.out.mono ?_; rintro r w1 ⟨rfl, rfl⟩)
    go_ret
    exact ⟨none, 0, rfl, ⟨fun i h => absurd h (by simp), fun x h => by cases h⟩, World.grownBy.refl _ _⟩
  · obtain ⟨p, rfl⟩ : ∃ p : Nat, s = (p : Int) := ⟨s.toNat, by simp [fineF, btw] at ht; omega⟩
    obtain ⟨q, rfl⟩ : ∃ q : Nat, v = (q : Int) := ⟨v.toNat, by simp [fineF, btw] at ht; omega⟩
    have hp : (1 ≤ p ∧ p ≤ 4) ∧ (1 ≤ q ∧ q ≤ 4) := by simp [fineF, btw] at ht; omega
    obtain ⟨hp, hq⟩ := hp
    rw [← allK_keys hp hq]
    have HC := Lib.hid (fun u => key_count (p : Int) (q : Int) u)
    have hle := countF_le (p : Int) (q : Int)
    generalize countF (p : Int) (q : Int) = n at *
    obtain ⟨i0, hi0, hz0, hz1, hz2⟩ := info_parts info_key
    obtain ⟨wm, hmk, hown, hgm⟩ := run_make_own (P := Try.prog) w w.heap.size 83 66 i0 _ 3 Try.underlying83 hi0 hz0 hz1 .i64 .i64 n (by rw [hz2]; omega) (by unfold maxLen; omega) (Nat.le_refl _)
    have HOW := Lib.hid (show OwnR wm w.heap.size 66 3 (.slice (some ⟨w.heap.size, 0, none⟩) 0 n) (([] : List KeyP).map keyCells) from ⟨fun _ h => (by cases h), hown⟩)
    have HGM := Lib.hid hgm
    clear ht hi0 hz0 hz1 hz2 hown hgm
    go_enter Try.func53, Try.ntmps53
    go_wp2_with (first | (go_at_call 67; with_reducible refine HF.out.mono ?_; rintro r w1 ⟨rfl, rfl⟩) | (go_at_call 61; with_reducible refine (HC.out _).mono ?_; rintro r w2 ⟨rfl, rfl⟩))
    go_loopw [5, 6] (fun o i wr => KAllRel w2 p q o i wr) (fun _ i _ => 5 - (intOf i).toNat)
    case atStart => exact ⟨0, by omega, rfl, HOW.out, HGM.out⟩
    case round =>
      obtain ⟨w9, hw9⟩ : ∃ w9, w9 = wr := ⟨_, rfl⟩
      subst hw9
      obtain ⟨k, hk, rfl, ho, hg⟩ := hrel
      have HO := Lib.hid ho; have HG := Lib.hid hg
      clear ho hg
      by_cases hlt : k < 4
      · have j1 : (k : Int) + 1 ≤ 4 := by omega
        have HB := Lib.hid (fun u => (show Calls Try.prog 68 #[.int .u8 ((k : Int) + 1)] u fun r w' => r = .returned (.bool (decide (k + 1 ≤ 2 ∧ 1 ≤ k + 1))) ∧ w' = u from both_at (k + 1) (by omega) u))
        obtain ⟨m, hm⟩ : ∃ m, perK q (k + 1) = m := ⟨_, rfl⟩
        have hpm : m ≤ 4 ∧ 1 ≤ m := by rw [← hm]; unfold perK; split <;> omega
        have hMM : p * m ≤ 16 := Nat.le_trans (Nat.mul_le_mul hp.2 hpm.1) (by decide)
        have hmul : (p : Int) * (m : Int) = ((p * m : Nat) : Int) := by push_cast; rfl
        by_cases hk2 : k + 1 ≤ 2
        · have hmq : m = q := by rw [← hm]; unfold perK; rw [if_pos hk2]
          subst hmq
          obtain ⟨M, hMp⟩ : ∃ M, p * m = M := ⟨_, rfl⟩
          have hmul2 : (p : Int) * (m : Int) = (M : Int) := by rw [hmul, hMp]
          have HMP := Lib.hid hMp; have HM := Lib.hid hm
          rw [hMp] at hMM
          rw [decide_eq_true ⟨hk2, by omega⟩] at HB
          have mne : ((m : Int) == 0) = false := by rw [beq_eq_false_iff_ne]; omega
          have mne0 : ¬ m = 0 := by omega
          clear hmul hMp hm
          go_wp2_with (go_at_call 68; with_reducible refine (HB.out _).mono ?_; rintro r w2' ⟨rfl, rfl⟩)
          go_loopw [5, 27] (fun o i wr => KInRel w2 p m k M o i wr) (fun _ i _ => M - (intOf i).toNat)
          case atStart => exact ⟨0, Nat.zero_le _, rfl, by simpa [kindK] using HO.out, HG.out⟩
          case round =>
            obtain ⟨i, hi, rfl, ho, hg⟩ := hrel
            have HO3 := Lib.hid ho; have HG3 := Lib.hid hg
            clear ho hg
            by_cases hli : i < M
            · have i0 : (0 : Int) ≤ (i : Int) := by omega
              have i1 : (i : Int) < (M : Int) := by omega
              have hsn := kindK_snoc m (k + 1) i
              rw [HM.out] at hsn
              obtain ⟨d, hd⟩ : ∃ d, i / m = d := ⟨_, rfl⟩
              obtain ⟨e, he⟩ : ∃ e, i % m = e := ⟨_, rfl⟩
              have hdl : d ≤ 16 := by rw [← hd]; exact Nat.le_trans (Nat.div_le_self _ _) (by omega)
              have hel : e ≤ 16 := by rw [← he]; exact Nat.le_trans (Nat.mod_le _ _) (by omega)
              have r6 : IntKind.i64.wrap (d : Int) = (d : Int) := by rw [IntKind.wrap_i64]; omega
              have r7 : IntKind.i64.wrap (e : Int) = (e : Int) := by rw [IntKind.wrap_i64]; omega
              have r1 : (i : Int) / (m : Int) = (d : Int) := by rw [← hd]; rfl
              have r3 : (i : Int) % (m : Int) = (e : Int) := by rw [← he]; rfl
              have r4 : (i : Int).tdiv (m : Int) = (d : Int) := by rw [← hd]; rfl
              have r5 : (i : Int).tmod (m : Int) = (e : Int) := by rw [← he]; rfl
              obtain ⟨y2, hy2⟩ : ∃ y, UInt8.ofNat d = y := ⟨_, rfl⟩
              obtain ⟨y3, hy3⟩ : ∃ y, UInt8.ofNat e = y := ⟨_, rfl⟩
              have w2a : IntKind.u8.wrap (d : Int) = (y2.toNat : Int) := by rw [← hy2]; exact u8wrap d
              have w3a : IntKind.u8.wrap (e : Int) = (y3.toNat : Int) := by rw [← hy3]; exact u8wrap e
              rw [hd, he, hy2, hy3] at hsn
              have hll : (allK p m k ++ kindK m (k + 1) i).length ≤ 100 := by
                rw [List.length_append, kindK_len]
                have := allK_len p m hp.2 hq k
                omega
              have hsn2 : allK p m k ++ kindK m (k + 1) (i + 1) = (allK p m k ++ kindK m (k + 1) i) ++ [(UInt8.ofNat (k + 1), y2, y3)] := by rw [hsn, ← List.append_assoc]
              obtain ⟨LL, hLL⟩ : ∃ LL, allK p m k ++ kindK m (k + 1) i = LL := ⟨_, rfl⟩
              have ho3 := HO3.out
              rw [hLL] at hll hsn2 ho3
              have HSN := Lib.hid hsn2; have HO3 := Lib.hid ho3
              have HLE := Lib.hid (show (LL.map keyCells).length ≤ 100 by rw [List.length_map]; exact hll)
              clear hll hsn2 hLL ho3
              have HSZ := Lib.hid (grown_trans HG3.out (grown_drew (World.grownBy_alloc wr (.cells #[.int .u8 ((k : Int) + 1), .int .u8 (y2.toNat : Int), .int .u8 (y3.toNat : Int)] 66) none)))
              have hk1 := Lib.hid (show ((UInt8.ofNat (k + 1)).toNat : Int) = (k : Int) + 1 by simp; omega)
              clear hd he hy2 hy3 hsn
              go_wp2_with fail
              go_region_law (first
                | (refine step_append_elem rfl _ _ 83 66 rfl Try.underlying83 _ 3 3 info_key rfl (by decide) ((HO3.out.grown (World.grownBy_alloc wr (.cells #[.int .u8 ((k : Int) + 1), .int .u8 (y2.toNat : Int), .int .u8 (y3.toNat : Int)] 66) none)).grown (grown_drew1 _)) rfl (heap_new_drew _ _ _ (by simp)) rfl rfl (fun u hu => by simp only [List.mem_cons, List.not_mem_nil, or_false] at hu; rcases hu with rfl | rfl | rfl <;> rfl) (by have := HLE.out; omega) (by have := HLE.out; omega) HSZ.out.size ?_; intro g' cap wc hoc hgc hkc))
              all_goals (
                have HOC := Lib.hid (show OwnR wc w2.heap.size 66 3 (.slice (some ⟨g', 0, none⟩) (LL.length + 1) cap) ((allK p m k ++ kindK m (k + 1) (i + 1)).map keyCells) by
                  rw [HSN.out, List.map_append, show ([(UInt8.ofNat (k + 1), y2, y3)] : List KeyP).map keyCells = [[.int .u8 ((k : Int) + 1), .int .u8 (y2.toNat : Int), .int .u8 (y3.toNat : Int)]] by simp only [List.map_cons, List.map_nil, keyCells, hk1.out]]
                  have hoc2 := hoc
                  rw [List.length_map] at hoc2
                  exact hoc2)
                have HGC := Lib.hid (grown_row HSZ.out (fun z h => (HO3.out.lt z h).1) hgc)
                clear hoc hgc hkc
                go_wp2_with fail
                go_roundw
                all_goals first
                  | (exact ⟨i + 1, by omega, by go_num, HOC.out, HGC.out⟩)
                  | (simp [intOf]; omega))
            · obtain rfl : i = M := by omega
              go_wp2_with fail
              go_roundw
              all_goals first
                | (exact ⟨k + 1, by omega, by go_num, by show OwnR _ _ _ _ _ ((allK p m k ++ kindK m (k + 1) (p * perK m (k + 1))).map keyCells); rw [HM.out, HMP.out]; exact HO3.out, HG3.out⟩)
                | (simp [intOf]; omega)
        · have hmq : m = 1 := by rw [← hm]; unfold perK; rw [if_neg hk2]
          subst hmq
          have HM := Lib.hid hm
          rw [decide_eq_false (fun h => hk2 h.1)] at HB
          have HMP := Lib.hid (show p * 1 = p from Nat.mul_one p)
          have hM4 : p ≤ 4 := hp.2
          clear hmul hm hMM
          go_wp2_with (go_at_call 68; with_reducible refine (HB.out _).mono ?_; rintro r w2' ⟨rfl, rfl⟩)
          go_loopw [5, 27] (fun o i wr => KInRel w2 p q k p o i wr) (fun _ i _ => p - (intOf i).toNat)
          case atStart => exact ⟨0, Nat.zero_le _, rfl, by simpa [kindK] using HO.out, HG.out⟩
          case round =>
            obtain ⟨i, hi, rfl, ho, hg⟩ := hrel
            have HO3 := Lib.hid ho; have HG3 := Lib.hid hg
            clear ho hg
            by_cases hli : i < p
            · have i0 : (0 : Int) ≤ (i : Int) := by omega
              have i1 : (i : Int) < (p : Int) := by omega
              have hsn := kindK_snoc q (k + 1) i
              rw [HM.out] at hsn
              obtain ⟨y2, hy2⟩ : ∃ y, UInt8.ofNat i = y := ⟨_, rfl⟩
              have w2a : IntKind.u8.wrap (i : Int) = (y2.toNat : Int) := by rw [← hy2]; exact u8wrap i
              have r6 : IntKind.i64.wrap (i : Int) = (i : Int) := by rw [IntKind.wrap_i64]; omega
              have r7 : IntKind.u8.wrap 0 = 0 := rfl
              rw [Nat.div_one, Nat.mod_one, hy2] at hsn
              have hll : (allK p q k ++ kindK q (k + 1) i).length ≤ 100 := by
                rw [List.length_append, kindK_len]
                have := allK_len p q hp.2 hq k
                omega
              have hsn2 : allK p q k ++ kindK q (k + 1) (i + 1) = (allK p q k ++ kindK q (k + 1) i) ++ [(UInt8.ofNat (k + 1), y2, UInt8.ofNat 0)] := by rw [hsn, ← List.append_assoc]
              obtain ⟨LL, hLL⟩ : ∃ LL, allK p q k ++ kindK q (k + 1) i = LL := ⟨_, rfl⟩
              have ho3 := HO3.out
              rw [hLL] at hll hsn2 ho3
              have HSN := Lib.hid hsn2; have HO3 := Lib.hid ho3
              have HLE := Lib.hid (show (LL.map keyCells).length ≤ 100 by rw [List.length_map]; exact hll)
              clear hll hsn2 hLL ho3
              have HSZ := Lib.hid (grown_trans HG3.out (grown_drew (World.grownBy_alloc wr (.cells #[.int .u8 ((k : Int) + 1), .int .u8 (y2.toNat : Int), .int .u8 0] 66) none)))
              have hk1 := Lib.hid (show ((UInt8.ofNat (k + 1)).toNat : Int) = (k : Int) + 1 by simp; omega)
              clear hy2 hsn
              go_wp2_with fail
              go_region_law (first
                | (refine step_append_elem rfl _ _ 83 66 rfl Try.underlying83 _ 3 3 info_key rfl (by decide) ((HO3.out.grown (World.grownBy_alloc wr (.cells #[.int .u8 ((k : Int) + 1), .int .u8 (y2.toNat : Int), .int .u8 0] 66) none)).grown (grown_drew1 _)) rfl (heap_new_drew _ _ _ (by simp)) rfl rfl (fun u hu => by simp only [List.mem_cons, List.not_mem_nil, or_false] at hu; rcases hu with rfl | rfl | rfl <;> rfl) (by have := HLE.out; omega) (by have := HLE.out; omega) HSZ.out.size ?_; intro g' cap wc hoc hgc hkc))
              all_goals (
                have HOC := Lib.hid (show OwnR wc w2.heap.size 66 3 (.slice (some ⟨g', 0, none⟩) (LL.length + 1) cap) ((allK p q k ++ kindK q (k + 1) (i + 1)).map keyCells) by
                  rw [HSN.out, List.map_append, show ([(UInt8.ofNat (k + 1), y2, UInt8.ofNat 0)] : List KeyP).map keyCells = [[.int .u8 ((k : Int) + 1), .int .u8 (y2.toNat : Int), .int .u8 0]] by simp only [List.map_cons, List.map_nil, keyCells, hk1.out]; rfl]
                  have hoc2 := hoc
                  rw [List.length_map] at hoc2
                  exact hoc2)
                have HGC := Lib.hid (grown_row HSZ.out (fun z h => (HO3.out.lt z h).1) hgc)
                clear hoc hgc hkc
                go_wp2_with fail
                go_roundw
                all_goals first
                  | (exact ⟨i + 1, by omega, by go_num, HOC.out, HGC.out⟩)
                  | (simp [intOf]; omega))
            · obtain rfl : p = i := by omega
              go_wp2_with fail
              go_roundw
              all_goals first
                | (exact ⟨k + 1, by omega, by go_num, by show OwnR _ _ _ _ _ ((allK p q k ++ kindK q (k + 1) (p * perK q (k + 1))).map keyCells); rw [HM.out, HMP.out]; exact HO3.out, HG3.out⟩)
                | (simp [intOf]; omega)
      · obtain rfl : k = 4 := by omega
        obtain ⟨a9, c9, rfl, hl⟩ := HO.out.keys
        have HFR := Lib.hid (show Fresh w2.heap.size a9 from fun x hx => (HO.out.lt x.block (by rw [hx]; rfl)).1)
        have HL := Lib.hid hl
        clear hl
        go_wp2_with fail
        go_ret
        exact ⟨_, _, rfl, ⟨HL.out, HFR.out⟩, HG.out⟩
theorem key_all (s v : Int) (w : World) : Calls Try.prog 53 #[.int .i64 s, .int .i64 v] w (KeysPost w (keysF s v)) :=
  (key_all2 s v w).mono (by rintro r w' ⟨a, c, h1, h2, h3⟩; exact ⟨a, c, h1, h2.1, h3⟩)

end Go.Proofs.Ytfmcbnoldcfcbaa
