/-
  Who waits, by the document: joining, leaving, quitting; two lists.
-/
import Derived.Test.YtnikeceeclfnpaaQRef
namespace Go.Proofs.Ytnikeceeclfnpaa
open Go.RowKit
set_option maxRecDepth 100000

set_option maxHeartbeats 3200000 in
theorem r_place (a : Option Addr) (n c : Nat) (L : List WaitP) (x : WaitP) (w : World) (hl : Lies w a n c L) (hsm : n ≤ 100000) :
    Calls Try.prog 27 #[.slice a n c, .agg #[.int .u32 (x.1 : Int), .int .u8 (x.2.toNat : Int)]] w fun r w' => r = .returned (.tuple #[.int .i64 ((placeF L x).1 : Int), .bool (placeF L x).2]) ∧ w.grownBy w' none := by
  obtain ⟨hL, hn, hnc, hcm⟩ := hl
  have hA := World.grownBy_alloc w (.cells #[.int .u32 (x.1 : Int), .int .u8 (x.2.toNat : Int)] 50) none
  have HI := Lib.hid (r_at a n c L x _ (hL.grown hA) hn (by unfold maxLen; omega))
  have HA := Lib.hid hA; have HN := Lib.hid hn; have HL := Lib.hid hL
  have XL := look_later (Box.new w 50 [.int .u32 (x.1 : Int), .int .u8 (x.2.toNat : Int)] w.heap.size rfl)
  have hself := World.grownBy.refl (w.alloc (.cells #[.int .u32 (x.1 : Int), .int .u8 (x.2.toNat : Int)] 50)) none
  clear hL hn hA hcm
  by_cases hx : x ∈ L
  · rw [show idxW L x = (L.idxOf x : Int) from if_pos hx] at HI
    rw [show placeF L x = ((ofF (L.take (L.idxOf x)) x.2).length, true) from if_pos hx]
    have hk := List.idxOf_lt_length_of_mem hx
    generalize L.idxOf x = k at *
    have hkn : k < n := HN.out ▸ hk
    have hk0 : (0 : Int) ≤ (k : Int) := by omega
    have hkc : (k : Int) ≤ (c : Int) := by omega
    have HO := Lib.hid (fun u (hg : w.grownBy u none) => r_of a k c (L.take k) x.2 u ((HL.out.grown hg).take k) (by rw [List.length_take, HN.out]; omega) (by omega))
    obtain ⟨F, hF⟩ : ∃ F, ofF (L.take k) x.2 = F := ⟨_, rfl⟩
    rw [hF] at HO ⊢
    clear hx hk hF
    go_enter Try.func27, Try.ntmps27
    go_wp2_with fail
    refine HI.out.mono ?_
    rintro r w2 ⟨rfl, hg2⟩
    have XL2 := fun w' (h : w2.grownBy w' none) => XL w' (growT h hg2)
    have HG2 := Lib.hid (grown_trans HA.out hg2)
    have hS0 : w2.grownBy w2.drew none := grown_drew1 _
    have hS1 : w2.grownBy w2 none := World.grownBy.refl _ _
    clear hg2 XL hself
    go_wp2_with fail
    go_region_held_law (fun w' => w2.grownBy w' none) (with_reducible (first | assumption | exact keepA' (by assumption))) (first
      | (go_at_call 29; (with_reducible refine (HO.out _ (growT (by assumption : w2.grownBy _ none) HG2.out)).mono ?_); rintro r w3 ⟨a3, c3, rfl, hl3, hg3⟩; have hSa := growT hg3 (by with_reducible assumption)))
    all_goals (
      go_wp2_with fail
      go_ret2
      exact ⟨rfl, grown_trans HG2.out (by with_reducible assumption)⟩)
  · rw [idxW_none hx] at HI
    rw [show placeF L x = (0, false) from if_neg hx]
    clear hx
    go_enter Try.func27, Try.ntmps27
    go_wp2_with fail
    refine HI.out.mono ?_
    rintro r w2 ⟨rfl, hg2⟩
    have HG2 := Lib.hid (grown_trans HA.out hg2)
    clear hg2 XL hself
    go_wp2_with fail
    go_ret2
    exact ⟨rfl, HG2.out⟩

set_option maxHeartbeats 3200000 in
theorem r_join (a : Option Addr) (n c : Nat) (L : List WaitP) (x : WaitP) (w : World) (hl : Lies w a n c L) (hsm : n ≤ 100000) :
    Calls Try.prog 23 #[.slice a n c, .agg #[.int .u32 (x.1 : Int), .int .u8 (x.2.toNat : Int)]] w (Two w (joinF L x)) := by
  obtain ⟨hL, hn, hnc, hcm⟩ := id hl
  have hA := World.grownBy_alloc w (.cells #[.int .u32 (x.1 : Int), .int .u8 (x.2.toNat : Int)] 50) none
  have HI := Lib.hid (r_at a n c L x _ (hL.grown hA) hn (by unfold maxLen; omega))
  have HA := Lib.hid hA; have HN := Lib.hid hn; have HLI := Lib.hid hl
  have hbox := Box.new w 50 [.int .u32 (x.1 : Int), .int .u8 (x.2.toNat : Int)] w.heap.size rfl
  have XL := look_later hbox
  have HBX := Lib.hid hbox
  have hself := World.grownBy.refl (w.alloc (.cells #[.int .u32 (x.1 : Int), .int .u8 (x.2.toNat : Int)] 50)) none
  clear hl hn hA hL hnc hcm hbox
  by_cases hx : x ∈ L
  · have h0 : 0 ≤ idxW L x := by rw [show idxW L x = (L.idxOf x : Int) from if_pos hx]; omega
    rw [show joinF L x = (L, 11) from if_pos hx]
    generalize idxW L x = z at *
    clear hx
    go_enter Try.func23, Try.ntmps23
    go_wp2_with fail
    refine HI.out.mono ?_
    rintro r w2 ⟨rfl, hg2⟩
    have HG2 := Lib.hid (grown_trans HA.out hg2)
    clear hg2 XL hself
    go_wp2_with fail
    go_ret2
    exact ⟨_, _, _, rfl, HLI.out.grown HG2.out, HG2.out⟩
  · rw [idxW_none hx] at HI
    rw [show joinF L x = (L ++ [x], 0) from if_neg hx]
    clear hx
    by_cases h0 : n = 0
    · subst h0
      obtain rfl : L = [] := List.length_eq_zero_iff.1 HN.out
      rcases a with _ | ad
      all_goals (
        go_enter Try.func23, Try.ntmps23
        go_wp2_with fail
        refine HI.out.mono ?_
        rintro r w2 ⟨rfl, hg2⟩
        have XL2 := (HBX.out.grown hg2).look
        have HG2 := Lib.hid (grown_trans HA.out hg2)
        clear hg2 XL hself
        go_wp2_with (at_builtin; refine wpList_append_elem (o := ⟨some 18, _, _, _, _, _⟩) rfl _ _ 47 50 rfl Try.underlying47 _ 2 8 info_wait rfl (by decide) (base := w.heap.size) (L := []) (OwnR.nil _ _ _ _) rfl (heap_new_at _ _ _ (by simp)) rfl rfl (wait_one x) (by simp) (by simp) (growA _ _ HG2.out).size ?_)
        intro g cap wc hoc hgc hkc
        have HOC := Lib.hid (OwnR.lies3 (L := []) (x := x) hoc)
        have HGC := Lib.hid (grown_row (growA _ _ HG2.out) (fun q h => by cases h) hgc)
        clear hoc hgc hkc XL2
        go_wp2_with fail
        go_ret2
        exact ⟨_, _, _, rfl, HOC.out, HGC.out⟩)
    · go_enter Try.func23, Try.ntmps23
      go_wp2_with fail
      refine HI.out.mono ?_
      rintro r w2 ⟨rfl, hg2⟩
      have HBX2 := Lib.hid (HBX.out.grown hg2)
      have HG2 := Lib.hid (grown_trans HA.out hg2)
      clear hg2 XL hself
      go_wp2_with (at_builtin; refine wpList_append_waits (o := ⟨some 14, _, _, _, _, _⟩) (K := []) rfl _ _ rfl (base := w.heap.size) (OwnR.nil _ _ _ _) rfl rfl (HLI.out.1.grown HG2.out) HN.out (by omega) (by simp; omega) HG2.out.size ?_)
      intro g cap w3 hoc hgc hkc
      have hoc3 : OwnR w3 w.heap.size 50 2 (.slice (some ⟨g, 0, none⟩) n cap) (L.map waitCells) := hoc
      have hg23 : w2.grownBy w3 none := hgc
      have HO3 := Lib.hid hoc3; have HG3 := Lib.hid (grown_trans HG2.out hg23)
      have XL3 := (HBX2.out.grown hg23).look
      have HLN := Lib.hid (show (L.map waitCells).length = n from by rw [List.length_map]; exact HN.out)
      clear hoc hgc hkc hoc3 hg23
      go_wp2_with (at_builtin; refine wpList_append_elem (o := ⟨some 18, _, _, _, _, _⟩) rfl _ _ 47 50 rfl Try.underlying47 _ 2 8 info_wait rfl (by decide) (base := w.heap.size) (HO3.out.grown (World.grownBy_alloc _ _ none)) rfl (heap_new_at _ _ _ (by simp)) rfl rfl (wait_one x) (by have := HLN.out; omega) (by have := HLN.out; omega) (growA _ _ HG3.out).size ?_)
      intro g' cap' wc hoc hgc hkc
      have HOC := Lib.hid (OwnR.lies3 (L := L) (x := x) hoc)
      have HGC := Lib.hid (grown_row (growA _ _ HG3.out) (fun q h => (HO3.out.lt q h).1) hgc)
      clear hoc hgc hkc XL3
      go_wp2_with fail
      go_ret2
      exact ⟨_, _, _, rfl, HOC.out, HGC.out⟩

/-- a list that is built as a prefix is read -/
def OutRel (w : World) (n : Nat) (F : Nat → List WaitP) (v i : Value) (wr : World) : Prop :=
  ∃ k : Nat, k ≤ n ∧ i = .int .i64 k ∧ OwnR wr w.heap.size 50 2 v ((F k).map waitCells) ∧ w.grownBy wr none
theorem OutRel.next {w wr wx wc : World} {F : Nat → List WaitP} {n k : Nat} {v : Value} {g cap m : Nat} {y : WaitP} (hkn : k < n) (hF : F (k + 1) = F k ++ [y])
    (ho : OwnR wr w.heap.size 50 2 v ((F k).map waitCells)) (hg : w.grownBy wx none)
    (hoc : OwnR wc w.heap.size 50 2 (.slice (some ⟨g, 0, none⟩) m cap) ((F k).map waitCells ++ [waitCells y])) (hgc : wx.grownBy wc v.ownBlock) :
    OutRel w n F (.slice (some ⟨g, 0, none⟩) m cap) (.int .i64 ((k + 1 : Nat) : Int)) wc := by
  refine ⟨k + 1, hkn, rfl, ?_, grown_row hg (fun q h => (ho.lt q h).1) hgc⟩
  rw [hF, List.map_append]
  exact hoc
theorem OutRel.skip {w wr wx : World} {F : Nat → List WaitP} {n k : Nat} {v : Value} (hkn : k < n) (hF : F (k + 1) = F k)
    (ho : OwnR wr w.heap.size 50 2 v ((F k).map waitCells)) (hg : w.grownBy wr none) (hx : wr.grownBy wx none) :
    OutRel w n F v (.int .i64 ((k + 1 : Nat) : Int)) wx := by
  refine ⟨k + 1, hkn, rfl, ?_, grown_trans hg hx⟩
  rw [hF]
  exact ho.grown hx

set_option maxHeartbeats 3200000 in
theorem r_quit (a : Option Addr) (n c : Nat) (L : List WaitP) (q : Nat) (w : World) (hL : WaitList w a L) (hn : L.length = n) (hsm : n ≤ 100000) :
    Calls Try.prog 32 #[.slice a n c, .int .u32 (q : Int)] w (One w (quitF L q)) := by
  have HL := Lib.hid hL; have HN := Lib.hid hn
  clear hL hn
  go_enter Try.func32, Try.ntmps32
  go_wp2_with fail
  go_loopw [5, 6] (fun v i wr => OutRel w n (fun k => quitF (L.take k) q) v i wr) (fun _ i _ => n - (intOf i).toNat)
  case atStart => exact ⟨0, Nat.zero_le _, rfl, OwnR.nil _ _ _ _, World.grownBy.refl _ _⟩
  case round =>
    obtain ⟨k, hk, rfl, ho, hg⟩ := hrel
    have HG := Lib.hid hg; have HO := Lib.hid (show OwnR wr w.heap.size _ 2 _ ((quitF (L.take k) q).map waitCells) from ho)
    clear hg ho
    by_cases hlt : k < n
    · have hkl : k < L.length := by rw [HN.out]; exact hlt
      obtain ⟨y, he⟩ : ∃ e, L[k]'hkl = e := ⟨_, rfl⟩
      obtain ⟨b, o, rfl, h0, h1⟩ := HL.out k hkl
      rw [he] at h0 h1
      have d0 := grown_cell HG.out h0
      have d1 := grown_cell HG.out h1
      have hst := filter_take_snoc (p := keepQ q) hkl
      rw [he] at hst
      have HST := Lib.hid hst
      have i0 : (0 : Int) ≤ (k : Int) := by omega
      have i1 : (k : Int) < (n : Int) := by omega
      have HLE := Lib.hid (show ((quitF (L.take k) q).map waitCells).length ≤ 100000 from by
        rw [List.length_map]
        have h1 := List.length_filter_le (keepQ q) (L.take k)
        have h2 := List.length_take_le k L
        unfold quitF
        omega)
      have HSZ := Lib.hid (show w.heap.size ≤ (wr.alloc (.cells #[.int .u32 (y.1 : Int), .int .u8 (y.2.toNat : Int)] 50)).heap.size by have := HG.out.size; simp; omega)
      have hq := nat_eq y.1 q
      clear h0 h1 he hst
      by_cases hs : y.1 = q
      · rw [decide_eq_true hs] at hq
        have hq2 : ((y.1 : Int) != (q : Int)) = false := by simp [hs]
        have hrel2 := OutRel.skip (F := fun k => quitF (L.take k) q) hlt (by unfold quitF; rw [HST.out, if_neg (by unfold keepQ; rw [hq]; simp), List.append_nil]) HO.out HG.out (World.grownBy.refl _ _)
        have HREL := Lib.hid hrel2
        clear hs hrel2
        go_wp2_with fail
        go_roundw
        all_goals first
          | exact HREL.out
          | (simp [intOf]; omega)
      · rw [decide_eq_false hs] at hq
        have hq2 : ((y.1 : Int) != (q : Int)) = true := by simp; omega
        have HF := Lib.hid (show quitF (L.take (k + 1)) q = quitF (L.take k) q ++ [y] by unfold quitF; rw [HST.out, if_pos (by unfold keepQ; rw [hq]; rfl)])
        clear hs
        go_wp2_with (at_builtin; refine wpList_append_elem (o := ⟨some 26, _, _, _, _, _⟩) rfl _ _ 47 50 rfl Try.underlying47 _ 2 8 info_wait rfl (by decide) (HO.out.grown (World.grownBy_alloc _ _ none)) rfl (heap_new_at _ _ _ (by simp)) rfl rfl (wait_one y) (by have := HLE.out; omega) (by have := HLE.out; omega) HSZ.out ?_)
        intro g cap wc hoc hgc hkc
        have HREL := Lib.hid (OutRel.next (F := fun k => quitF (L.take k) q) hlt HF.out HO.out (growA _ _ HG.out) hoc hgc)
        clear hoc hgc hkc d0 d1
        go_wp2_with fail
        go_roundw
        all_goals first
          | exact HREL.out
          | (simp [intOf]; omega)
    · obtain rfl : k = n := by omega
      have ho := HO.out
      rw [List.take_of_length_le (by rw [HN.out]; exact Nat.le_refl _)] at ho
      obtain ⟨a9, c9, rfl, hl9⟩ := ho.lies
      have HL9 := Lib.hid hl9
      clear ho hl9
      go_wp2_with fail
      go_ret
      exact ⟨_, _, _, rfl, HL9.out, HG.out⟩

theorem erase_take {L : List WaitP} {k j : Nat} (hk : k < L.length) : (L.take (k + 1)).eraseIdx j = if k = j then (L.take k).eraseIdx j else (L.take k).eraseIdx j ++ [L[k]] := by
  rw [List.take_succ_eq_append_getElem hk]
  have hl : (L.take k).length = k := by rw [List.length_take]; omega
  by_cases h : k = j
  · subst h
    rw [if_pos rfl, List.eraseIdx_append_of_length_le (by omega), hl, Nat.sub_self, List.eraseIdx_of_length_le (l := L.take k) (by omega)]
    simp
  · rw [if_neg h]
    by_cases h2 : j < k
    · rw [List.eraseIdx_append_of_lt_length (by omega)]
    · rw [List.eraseIdx_of_length_le (by simp; omega), List.eraseIdx_of_length_le (by omega)]
set_option maxHeartbeats 3200000 in
theorem r_leave (a : Option Addr) (n c : Nat) (L : List WaitP) (x : WaitP) (w : World) (hl : Lies w a n c L) (hsm : n ≤ 100000) :
    Calls Try.prog 25 #[.slice a n c, .agg #[.int .u32 (x.1 : Int), .int .u8 (x.2.toNat : Int)]] w (Two w (leaveF L x)) := by
  obtain ⟨hL, hn, hnc, hcm⟩ := id hl
  have hA := World.grownBy_alloc w (.cells #[.int .u32 (x.1 : Int), .int .u8 (x.2.toNat : Int)] 50) none
  have HI := Lib.hid (r_at a n c L x _ (hL.grown hA) hn (by unfold maxLen; omega))
  have HA := Lib.hid hA; have HN := Lib.hid hn; have HLI := Lib.hid hl; have HL := Lib.hid hL
  have XL := (Box.new w 50 [.int .u32 (x.1 : Int), .int .u8 (x.2.toNat : Int)] w.heap.size rfl).look
  clear hl hn hA hL hnc hcm
  by_cases hx : x ∈ L
  · rw [show idxW L x = (L.idxOf x : Int) from if_pos hx] at HI
    rw [show leaveF L x = (L.eraseIdx (L.idxOf x), 0) from if_pos hx]
    generalize L.idxOf x = j at *
    have hj0 : (0 : Int) ≤ (j : Int) := by omega
    clear hx
    go_enter Try.func25, Try.ntmps25
    go_wp2_with fail
    refine HI.out.mono ?_
    rintro r w2 ⟨rfl, hg2⟩
    have HG2 := Lib.hid (grown_trans HA.out hg2)
    clear hg2 XL
    go_wp2_with fail
    go_loopw [7, 8] (fun v i wr => OutRel w n (fun k => (L.take k).eraseIdx j) v i wr) (fun _ i _ => n - (intOf i).toNat)
    case atStart => exact ⟨0, Nat.zero_le _, rfl, OwnR.nil _ _ _ _, HG2.out⟩
    case round =>
      obtain ⟨k, hk, rfl, ho, hg⟩ := hrel
      have HG := Lib.hid hg; have HO := Lib.hid (show OwnR wr w.heap.size _ 2 _ (((L.take k).eraseIdx j).map waitCells) from ho)
      clear hg ho
      by_cases hlt : k < n
      · have hkl : k < L.length := by rw [HN.out]; exact hlt
        have HST := Lib.hid (erase_take (j := j) hkl)
        have i0 : (0 : Int) ≤ (k : Int) := by omega
        have i1 : (k : Int) < (n : Int) := by omega
        by_cases hs : k = j
        · have hq2 : ((k : Int) != (j : Int)) = false := by simp [hs]
          have HREL := Lib.hid (OutRel.skip (F := fun k => (L.take k).eraseIdx j) hlt (by show (L.take (k + 1)).eraseIdx j = (L.take k).eraseIdx j; rw [HST.out, if_pos hs]) HO.out HG.out (World.grownBy.refl _ _))
          have HSS := Lib.hid hs
          clear hs
          go_wp2_with fail
          go_roundw
          all_goals first
            | exact HREL.out
            | (simp [intOf]; omega)
        · obtain ⟨y, he⟩ : ∃ e, L[k]'hkl = e := ⟨_, rfl⟩
          obtain ⟨b, o, rfl, h0, h1⟩ := HL.out k hkl
          rw [he] at h0 h1
          have d0 := grown_cell HG.out h0
          have d1 := grown_cell HG.out h1
          have hq2 : ((k : Int) != (j : Int)) = true := by simp; omega
          have HF := Lib.hid (show (L.take (k + 1)).eraseIdx j = (L.take k).eraseIdx j ++ [y] by rw [HST.out, if_neg hs, he])
          have HLE := Lib.hid (show (((L.take k).eraseIdx j).map waitCells).length ≤ 100000 from by
            rw [List.length_map]
            have h1 := List.length_eraseIdx_le (L.take k) j
            have h2 := List.length_take_le k L
            omega)
          have HSZ := Lib.hid (show w.heap.size ≤ (wr.alloc (.cells #[.int .u32 (y.1 : Int), .int .u8 (y.2.toNat : Int)] 50)).heap.size by have := HG.out.size; simp; omega)
          clear hs h0 h1 he
          go_wp2_with (at_builtin; refine wpList_append_elem (o := ⟨some 30, _, _, _, _, _⟩) rfl _ _ 47 50 rfl Try.underlying47 _ 2 8 info_wait rfl (by decide) (HO.out.grown (World.grownBy_alloc _ _ none)) rfl (heap_new_at _ _ _ (by simp)) rfl rfl (wait_one y) (by have := HLE.out; omega) (by have := HLE.out; omega) HSZ.out ?_)
          intro g cap wc hoc hgc hkc
          have HREL := Lib.hid (OutRel.next (F := fun k => (L.take k).eraseIdx j) hlt HF.out HO.out (growA _ _ HG.out) hoc hgc)
          clear hoc hgc hkc d0 d1
          go_wp2_with fail
          go_roundw
          all_goals first
            | exact HREL.out
            | (simp [intOf]; omega)
      · obtain rfl : k = n := by omega
        have ho := HO.out
        rw [List.take_of_length_le (by rw [HN.out]; exact Nat.le_refl _)] at ho
        obtain ⟨a9, c9, rfl, hl9⟩ := ho.lies
        have HL9 := Lib.hid hl9
        clear ho hl9
        go_wp2_with fail
        go_ret2
        exact ⟨_, _, _, rfl, HL9.out, HG.out⟩
  · rw [idxW_none hx] at HI
    rw [show leaveF L x = (L, 10) from if_neg hx]
    clear hx
    go_enter Try.func25, Try.ntmps25
    go_wp2_with fail
    refine HI.out.mono ?_
    rintro r w2 ⟨rfl, hg2⟩
    have HG2 := Lib.hid (grown_trans HA.out hg2)
    clear hg2 XL
    go_wp2_with fail
    go_ret2
    exact ⟨_, _, _, rfl, HLI.out.grown HG2.out, HG2.out⟩

def SameRel (w : World) (L M : List WaitP) (n : Nat) (i : Value) (wr : World) : Prop := ∃ k : Nat, k ≤ n ∧ i = .int .i64 k ∧ L.take k = M.take k ∧ w.grownBy wr none
set_option maxHeartbeats 1600000 in
theorem r_same (a : Option Addr) (n c : Nat) (L : List WaitP) (a' : Option Addr) (n' c' : Nat) (M : List WaitP) (w : World) (hL : WaitList w a L) (hn : L.length = n) (hM : WaitList w a' M) (hn' : M.length = n') (hm : n ≤ maxLen) :
    Calls Try.prog 30 #[.slice a n c, .slice a' n' c'] w fun r w' => r = .returned (.bool (decide (L = M))) ∧ w.grownBy w' none := by
  have HL := Lib.hid hL; have HM := Lib.hid hM; have HN := Lib.hid hn; have HN' := Lib.hid hn'
  have hmx : n ≤ 9223372036854775807 := hm
  clear hL hM hn hn' hm
  by_cases hne : n = n'
  · subst hne
    go_enter Try.func30, Try.ntmps30
    go_wp2_with fail
    go_loopw [5] (fun i wr => SameRel w L M n i wr) (fun i _ => n - (intOf i).toNat)
    case atStart => exact ⟨0, Nat.zero_le _, rfl, rfl, World.grownBy.refl _ _⟩
    case round =>
      obtain ⟨k, hk, rfl, heq, hg⟩ := hrel
      have HG := Lib.hid hg; have HEQ := Lib.hid heq
      clear hg heq
      by_cases hlt : k < n
      · obtain ⟨x, he⟩ : ∃ e, L[k]'(by rw [HN.out]; exact hlt) = e := ⟨_, rfl⟩
        obtain ⟨y, he'⟩ : ∃ e, M[k]'(by rw [HN'.out]; exact hlt) = e := ⟨_, rfl⟩
        obtain ⟨b, o, rfl, h0, h1⟩ := HL.out k (by rw [HN.out]; exact hlt)
        obtain ⟨b', o', rfl, h0', h1'⟩ := HM.out k (by rw [HN'.out]; exact hlt)
        rw [he] at h0 h1
        rw [he'] at h0' h1'
        have d0 := cell_later (grown_cell HG.out h0)
        have d1 := cell_later (grown_cell HG.out h1)
        have f0 := cell_later (grown_cell HG.out h0')
        have f1 := cell_later (grown_cell HG.out h1')
        have HE := Lib.hid he; have HE' := Lib.hid he'
        have i0 : (0 : Int) ≤ (k : Int) := by omega
        have i1 : (k : Int) < (n : Int) := by omega
        have hS0 : wr.grownBy wr.drew none := grown_drew1 _
        have hS1 : wr.grownBy wr none := World.grownBy.refl _ _
        clear h0 h1 h0' h1' he he'
        by_cases hx : x = y
        · subst hx
          go_wp2_with fail
          go_region_held_law (fun w' => wr.grownBy w' none) (with_reducible (first | assumption | exact keepA' (by assumption))) (fail)
          all_goals (
            go_wp2_with fail
            go_roundw)
          all_goals first
            | (exact ⟨k + 1, by omega, by go_num, by rw [List.take_succ_eq_append_getElem (by rw [HN.out]; exact hlt), List.take_succ_eq_append_getElem (by rw [HN'.out]; exact hlt), HEQ.out, HE.out, HE'.out], grown_trans HG.out (by first | assumption | exact grown_drew1 _)⟩)
            | (simp [intOf]; omega)
        · have hfalse := wait_ne hx
          have HX := Lib.hid hx
          clear hx
          rcases hfalse with hf | ⟨hf, hf2⟩
          all_goals (
            go_wp2_with fail
            go_region_held_law (fun w' => wr.grownBy w' none) (with_reducible (first | assumption | exact keepA' (by assumption))) (fail)
            all_goals (
              go_wp2_with fail
              go_ret
              refine ⟨ret_bool ?_, grown_trans HG.out (by first | assumption | exact grown_drew1 _)⟩
              symm
              rw [decide_eq_false_iff_not]
              intro h
              subst h
              apply HX.out
              rw [← HE.out, ← HE'.out]))
      · obtain rfl : k = n := by omega
        go_wp2_with fail
        go_ret
        refine ⟨ret_bool ?_, HG.out⟩
        symm
        rw [decide_eq_true_eq]
        have := HEQ.out
        rwa [List.take_of_length_le (by rw [HN.out]; exact Nat.le_refl _), List.take_of_length_le (by rw [HN'.out]; exact Nat.le_refl _)] at this
  · have hne1 : ((n : Int) != (n' : Int)) = true := by simp; omega
    have HNE := Lib.hid hne
    clear hne
    go_enter Try.func30, Try.ntmps30
    go_wp2_with fail
    go_ret
    refine ⟨ret_bool ?_, World.grownBy.refl _ _⟩
    symm
    rw [decide_eq_false_iff_not]
    intro h
    subst h
    exact HNE.out (HN.out.symm.trans HN'.out)

end Go.Proofs.Ytnikeceeclfnpaa
