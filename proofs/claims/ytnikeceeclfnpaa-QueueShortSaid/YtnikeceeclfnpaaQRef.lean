/-
  Who waits, by the document: where; for which article; places.
-/
import Derived.Test.YtnikeceeclfnpaaQOf
namespace Go.Proofs.Ytnikeceeclfnpaa
open Go.RowKit
set_option maxRecDepth 100000

set_option maxHeartbeats 3200000 in
theorem r_of (a : Option Addr) (n c : Nat) (L : List WaitP) (s : UInt8) (w : World) (hL : WaitList w a L) (hn : L.length = n) (hsm : n ≤ 100000) :
    Calls Try.prog 29 #[.slice a n c, .int .u8 (s.toNat : Int)] w (Nums w (ofF L s)) := by
  have HL := Lib.hid hL; have HN := Lib.hid hn
  clear hL hn
  go_enter Try.func29, Try.ntmps29
  go_wp2_with fail
  go_loopw [5, 6] (fun v i wr => OfRel w L s n v i wr) (fun _ i _ => n - (intOf i).toNat)
  case atStart => exact ⟨0, Nat.zero_le _, rfl, OwnR.nil _ _ _ _, World.grownBy.refl _ _⟩
  case round =>
    obtain ⟨k, hk, rfl, ho, hg⟩ := hrel
    have HG := Lib.hid hg; have HO := Lib.hid ho
    clear hg ho
    by_cases hlt : k < n
    · have hkl : k < L.length := by rw [HN.out]; exact hlt
      obtain ⟨y, he⟩ : ∃ e, L[k]'hkl = e := ⟨_, rfl⟩
      obtain ⟨b, o, rfl, h0, h1⟩ := HL.out k hkl
      rw [he] at h0 h1
      have d0 := grown_cell HG.out h0
      have d1 := grown_cell HG.out h1
      have HE := Lib.hid he
      have i0 : (0 : Int) ≤ (k : Int) := by omega
      have i1 : (k : Int) < (n : Int) := by omega
      have HLE := Lib.hid (show (ofF (L.take k) s).length ≤ 100000 from by
        have h1 := ofF_len (L.take k) s
        have h2 := List.length_take_le k L
        omega)
      have HSZ := Lib.hid (show w.heap.size ≤ (wr.alloc (.cells #[.int .u32 (y.1 : Int)] 48)).heap.size by have := HG.out.size; simp; omega)
      have hq := u8_eq y.2 s
      clear h0 h1 he
      by_cases hs : y.2 = s
      · rw [decide_eq_true hs] at hq
        have HS := Lib.hid hs
        clear hs
        go_wp2_with (at_builtin; refine wpList_append_elem (o := ⟨some 27, _, _, _, _, _⟩) rfl _ _ 57 48 rfl Try.underlying57 _ 1 4 info_u32 rfl (by decide) (HO.out.grown (World.grownBy_alloc _ _ none)) rfl (heap_new_at _ _ _ (by simp)) rfl rfl (num_one y.1) (by rw [List.length_map]; have := HLE.out; omega) (by rw [List.length_map]; have := HLE.out; omega) HSZ.out ?_)
        intro g cap wc hoc hgc hkc
        have hrel2 := OfRel.next (n := n) hkl hlt HE.out HS.out HO.out (growA _ _ HG.out) hoc hgc
        have HREL := Lib.hid hrel2
        clear hoc hgc hkc d0 d1 hrel2
        go_wp2_with fail
        go_roundw
        all_goals first
          | exact HREL.out
          | (simp [intOf]; omega)
      · rw [decide_eq_false hs] at hq
        have HREL := Lib.hid (OfRel.skip (n := n) hkl hlt HE.out hs HO.out HG.out (World.grownBy.refl _ _))
        clear hs
        go_wp2_with fail
        go_roundw
        all_goals first
          | exact HREL.out
          | (simp [intOf]; omega)
    · obtain rfl : k = n := by omega
      have ho := HO.out
      rw [List.take_of_length_le (by rw [HN.out]; exact Nat.le_refl _)] at ho
      obtain ⟨a9, c9, rfl, hl9⟩ := ho.nums
      have HL9 := Lib.hid hl9
      clear ho hl9
      go_wp2_with fail
      go_ret
      exact ⟨_, _, rfl, HL9.out, HG.out⟩

set_option maxHeartbeats 1600000 in
theorem r_at (a : Option Addr) (n c : Nat) (L : List WaitP) (x : WaitP) (w : World) (hL : WaitList w a L) (hn : L.length = n) (hm : n ≤ maxLen) :
    Calls Try.prog 41 #[.slice a n c, .agg #[.int .u32 (x.1 : Int), .int .u8 (x.2.toNat : Int)]] w fun r w' => r = .returned (.int .i64 (idxW L x)) ∧ w.grownBy w' none := by
  have HL := Lib.hid hL; have HN := Lib.hid hn
  have hmx : n ≤ 9223372036854775807 := hm
  have XL := look_later (Box.new w 50 [.int .u32 (x.1 : Int), .int .u8 (x.2.toNat : Int)] w.heap.size rfl)
  clear hL hn hm
  go_enter Try.func41, Try.ntmps41
  go_wp2_with fail
  have HW := Lib.hid (World.grownBy_alloc w (.cells #[.int .u32 (x.1 : Int), .int .u8 (x.2.toNat : Int)] 50) none)
  generalize w.alloc (.cells #[.int .u32 (x.1 : Int), .int .u8 (x.2.toNat : Int)] 50) = w1 at *
  go_loopw [5] (fun i wr => IdxRel w1 L x n i wr) (fun i _ => n - (intOf i).toNat)
  case atStart => exact ⟨0, Nat.zero_le _, rfl, by simp, World.grownBy.refl _ _⟩
  case round =>
    obtain ⟨k, hk, rfl, hno, hg⟩ := hrel
    have HG := Lib.hid hg; have HNO := Lib.hid hno
    have YL := fun w' (h : wr.grownBy w' none) => XL w' (growT h hg)
    clear hg hno
    by_cases hlt : k < n
    · have hkl : k < L.length := by rw [HN.out]; exact hlt
      obtain ⟨y, he⟩ : ∃ e, L[k]'hkl = e := ⟨_, rfl⟩
      obtain ⟨b, o, rfl, h0, h1⟩ := HL.out k hkl
      rw [he] at h0 h1
      have d0 := cell_later (grown_cell HG.out (grown_cell HW.out h0))
      have d1 := cell_later (grown_cell HG.out (grown_cell HW.out h1))
      have HE := Lib.hid he
      have i0 : (0 : Int) ≤ (k : Int) := by omega
      have i1 : (k : Int) < (n : Int) := by omega
      have hS0 : wr.grownBy wr.drew none := grown_drew1 _
      have hS1 : wr.grownBy wr none := World.grownBy.refl _ _
      clear h0 h1 he XL
      by_cases hx : y = x
      · subst hx
        go_wp2_with fail
        go_region_held_law (fun w' => wr.grownBy w' none) (with_reducible (first | assumption | exact keepA' (by assumption))) (fail)
        all_goals (
          go_wp2_with fail
          go_ret
          exact ⟨ret_i64 (idxW_hit (HN.out ▸ hlt) HE.out HNO.out).symm, grown_trans HW.out (grown_trans HG.out (by first | assumption | exact grown_drew1 _))⟩)
      · have HX := Lib.hid hx
        have hf := wait_ne hx
        clear hx
        rcases hf with hf | ⟨hf, hf2⟩
        all_goals (
          go_wp2_with fail
          go_region_held_law (fun w' => wr.grownBy w' none) (with_reducible (first | assumption | exact keepA' (by assumption))) (fail)
          all_goals (
            go_wp2_with fail
            go_roundw)
          all_goals first
            | (exact ⟨k + 1, by omega, by go_num, take_snoc_not (HN.out ▸ hlt) (by rw [HE.out]; exact HX.out) HNO.out, grown_trans HG.out (by first | assumption | exact grown_drew1 _)⟩)
            | (simp [intOf]; omega))
    · obtain rfl : k = n := by omega
      go_wp2_with fail
      go_ret
      refine ⟨ret_i64 (idxW_none ?_).symm, grown_trans HW.out HG.out⟩
      have := HNO.out
      rwa [List.take_of_length_le (by rw [HN.out]; exact Nat.le_refl _)] at this

def placeF (L : List WaitP) (x : WaitP) : Nat × Bool := if x ∈ L then ((ofF (L.take (L.idxOf x)) x.2).length, true) else (0, false)
set_option maxHeartbeats 3200000 in
theorem q_place (a : Option Addr) (n c : Nat) (L : List WaitP) (x : WaitP) (w : World) (hl : Lies w a n c L) (hsm : n ≤ 100000) :
    Calls Try.prog 26 #[.slice a n c, .agg #[.int .u32 (x.1 : Int), .int .u8 (x.2.toNat : Int)]] w fun r w' => r = .returned (.tuple #[.int .i64 ((placeF L x).1 : Int), .bool (placeF L x).2]) ∧ w.grownBy w' none := by
  obtain ⟨hL, hn, hnc, hcm⟩ := hl
  have hA := World.grownBy_alloc w (.cells #[.int .u32 (x.1 : Int), .int .u8 (x.2.toNat : Int)] 50) none
  have HI := Lib.hid (sl_index a n c L x _ (hL.grown hA) hn (by unfold maxLen; omega))
  have HA := Lib.hid hA; have HN := Lib.hid hn; have HL := Lib.hid hL
  have XL := look_later (Box.new w 50 [.int .u32 (x.1 : Int), .int .u8 (x.2.toNat : Int)] w.heap.size rfl)
  have hself := World.grownBy.refl (w.alloc (.cells #[.int .u32 (x.1 : Int), .int .u8 (x.2.toNat : Int)] 50)) none
  clear hL hn hA hcm
  by_cases hx : x ∈ L
  · rw [show idxW L x = (L.idxOf x : Int) from if_pos hx] at HI
    rw [show placeF L x = ((ofF (L.take (L.idxOf x)) x.2).length, true) from if_pos hx]
    have hk := List.idxOf_lt_length_of_mem hx
    generalize L.idxOf x = k at *
    have hkn : k < n := HN.out ▸ hk
    have hk0 : (0 : Int) ≤ (k : Int) := by omega
    have hkc : (k : Int) ≤ (c : Int) := by omega
    have HO := Lib.hid (fun u (hg : w.grownBy u none) => q_of a k c (L.take k) x.2 u ((HL.out.grown hg).take k) (by rw [List.length_take, HN.out]; omega) (by omega))
    obtain ⟨F, hF⟩ : ∃ F, ofF (L.take k) x.2 = F := ⟨_, rfl⟩
    rw [hF] at HO ⊢
    clear hx hk hF
    go_enter Try.func26, Try.ntmps26
    go_wp2_with fail
    refine HI.out.mono ?_
    rintro r w2 ⟨rfl, hg2⟩
    have XL2 := fun w' (h : w2.grownBy w' none) => XL w' (growT h hg2)
    have HG2 := Lib.hid (grown_trans HA.out hg2)
    have hS0 : w2.grownBy w2.drew none := grown_drew1 _
    have hS1 : w2.grownBy w2 none := World.grownBy.refl _ _
    clear hg2 XL hself
    go_wp2_with fail
    go_region_held_law (fun w' => w2.grownBy w' none) (with_reducible (first | assumption | exact keepA' (by assumption))) (first
      | (go_at_call 28; (with_reducible refine (HO.out _ (growT (by assumption : w2.grownBy _ none) HG2.out)).mono ?_); rintro r w3 ⟨a3, c3, rfl, hl3, hg3⟩; have hSa := growT hg3 (by with_reducible assumption)))
    all_goals (
      go_wp2_with fail
      go_ret2
      exact ⟨rfl, grown_trans HG2.out (by with_reducible assumption)⟩)
  · rw [idxW_none hx] at HI
    rw [show placeF L x = (0, false) from if_neg hx]
    clear hx
    go_enter Try.func26, Try.ntmps26
    go_wp2_with fail
    refine HI.out.mono ?_
    rintro r w2 ⟨rfl, hg2⟩
    have HG2 := Lib.hid (grown_trans HA.out hg2)
    clear hg2 XL hself
    go_wp2_with fail
    go_ret2
    exact ⟨rfl, HG2.out⟩

end Go.Proofs.Ytnikeceeclfnpaa
