/-
  Who waits: joining, leaving, quitting.
-/
import Derived.Test.YtnikeceeclfnpaaQFunc
namespace Go.Proofs.Ytnikeceeclfnpaa
open Go.RowKit
set_option maxRecDepth 100000

def joinF (L : List WaitP) (x : WaitP) : List WaitP × Int := if x ∈ L then (L, 11) else (L ++ [x], 0)
def leaveF (L : List WaitP) (x : WaitP) : List WaitP × Int := if x ∈ L then (L.eraseIdx (L.idxOf x), 0) else (L, 10)
def quitF (L : List WaitP) (q : Int) : List WaitP := L.filter (keepQ q)
/-- a slice that reads as a list, and may be cut -/
def Lies (w : World) (a : Option Addr) (n c : Nat) (L : List WaitP) : Prop := WaitList w a L ∧ L.length = n ∧ n ≤ c ∧ c ≤ maxLen
theorem Lies.grown {w w' : World} {a : Option Addr} {n c : Nat} {L : List WaitP} (h : Lies w a n c L) (hg : w.grownBy w' none) : Lies w' a n c L := ⟨h.1.grown hg, h.2⟩
def Two (w : World) (t : List WaitP × Int) (r : Ending) (w' : World) : Prop := ∃ a n c, r = .returned (.tuple #[.slice a n c, .int .i64 t.2]) ∧ Lies w' a n c t.1 ∧ w.grownBy w' none
def One (w : World) (L : List WaitP) (r : Ending) (w' : World) : Prop := ∃ a n c, r = .returned (.slice a n c) ∧ Lies w' a n c L ∧ w.grownBy w' none
theorem OwnR.lies {w : World} {B : Nat} {v : Value} {L : List WaitP} (h : OwnR w B 50 2 v (L.map waitCells)) : ∃ a c, v = .slice a L.length c ∧ Lies w a L.length c L := by
  by_cases hne : L = []
  · subst hne
    rcases h.2.2 with ⟨hv, _⟩ | ⟨g, cap, cur, hv, _, _, hn, hm, _⟩
    · exact ⟨none, 0, hv, WaitList.nil _ _, rfl, Nat.le_refl _, by simp [maxLen]⟩
    · exact ⟨_, _, hv, WaitList.nil _ _, rfl, hn, hm⟩
  · obtain ⟨g, cap, hv, _, h1, h2, _, h3⟩ := h.row hne
    exact ⟨_, _, hv, h3, rfl, h1, h2⟩

theorem OwnR.lies2 {w : World} {B : Nat} {a : Option Addr} {n c : Nat} {L : List WaitP} (h : OwnR w B 50 2 (.slice a n c) (L.map waitCells)) : Lies w a n c L := by
  obtain ⟨a', c', e, h'⟩ := h.lies
  cases e
  exact h'
theorem OwnR.lies3 {w : World} {B : Nat} {a : Option Addr} {n c : Nat} {L : List WaitP} {x : WaitP} (h : OwnR w B 50 2 (.slice a n c) (L.map waitCells ++ [waitCells x])) : Lies w a n c (L ++ [x]) := by
  refine OwnR.lies2 (B := B) ?_
  rw [List.map_append]
  exact h

set_option maxHeartbeats 3200000 in
theorem q_join (a : Option Addr) (n c : Nat) (L : List WaitP) (x : WaitP) (w : World) (hL : WaitList w a L) (hn : L.length = n) (hsm : n ≤ 100000) :
    Calls Try.prog 22 #[.slice a n c, .agg #[.int .u32 (x.1 : Int), .int .u8 (x.2.toNat : Int)]] w (Two w (joinF L x)) := by
  have hA := World.grownBy_alloc w (.cells #[.int .u32 (x.1 : Int), .int .u8 (x.2.toNat : Int)] 50) none
  have HI := Lib.hid (sl_contains a n c L x _ (hL.grown hA) hn (by unfold maxLen; omega))
  have HCL := Lib.hid (fun u (hg : w.grownBy u none) => sl_clone a n c L u (hL.grown hg) hn (by omega))
  have HA := Lib.hid hA; have HN := Lib.hid hn
  have XL := look_later (Box.new w 50 [.int .u32 (x.1 : Int), .int .u8 (x.2.toNat : Int)] w.heap.size rfl)
  have hself := World.grownBy.refl (w.alloc (.cells #[.int .u32 (x.1 : Int), .int .u8 (x.2.toNat : Int)] 50)) none
  clear hL hn hA
  by_cases hx : x ∈ L
  · rw [decide_eq_true hx] at HI
    rw [show joinF L x = (L, 11) from if_pos hx]
    clear hx
    go_enter Try.func22, Try.ntmps22
    go_wp2_with fail
    refine HI.out.mono ?_
    rintro r w2 ⟨rfl, hg2⟩
    have HG2 := Lib.hid (grown_trans HA.out hg2)
    clear hg2 XL hself
    go_wp2_with fail
    refine (HCL.out _ HG2.out).mono ?_
    rintro r w3 ⟨v, rfl, ho, hg3⟩
    obtain ⟨a3, c3, rfl, hl3⟩ := ho.lies
    have HL3 := Lib.hid hl3; have HG3 := Lib.hid (grown_trans HG2.out hg3)
    clear ho hl3 hg3
    go_wp2_with fail
    go_ret2
    exact ⟨_, _, _, rfl, HL3.out, HG3.out⟩
  · rw [decide_eq_false hx] at HI
    rw [show joinF L x = (L ++ [x], 0) from if_neg hx]
    clear hx
    go_enter Try.func22, Try.ntmps22
    go_wp2_with fail
    generalize w.alloc (.cells #[.int .u32 (x.1 : Int), .int .u8 (x.2.toNat : Int)] 50) = w1 at *
    refine HI.out.mono ?_
    rintro r w2 ⟨rfl, hg2⟩
    have XL2 := fun w' (h : w2.grownBy w' none) => XL w' (growT h hg2)
    have HG2 := Lib.hid (grown_trans HA.out hg2)
    have hS0 : w2.grownBy w2.drew none := grown_drew1 _
    have hS1 : w2.grownBy w2 none := World.grownBy.refl _ _
    have hbn := (Box.new w2 50 [.int .u32 (x.1 : Int), .int .u8 (x.2.toNat : Int)] w2.heap.size rfl).drew
    have hS2 : w2.grownBy (w2.alloc (.cells #[.int .u32 (x.1 : Int), .int .u8 (x.2.toNat : Int)] 50)).drew none := grown_drew (World.grownBy_alloc _ _ _)
    have HBN := Lib.hid hbn
    clear hg2 XL hself hbn
    go_wp2_with fail
    go_region_law (first
      | (go_simp; go_at_call 40; (with_reducible refine (HCL.out _ (grown_trans HG2.out hS0)).mono ?_); rintro r wa ⟨v, rfl, hoa, hga⟩; have hgB := grown_trans hS0 hga)
      | (go_simp; go_at_call 40; (with_reducible refine (HCL.out _ (grown_trans HG2.out hS2)).mono ?_); rintro r wa ⟨v, rfl, hoa, hga⟩; have hbx := HBN.out.grown hga; have hgB := grown_trans hS2 hga)
      | (refine step_append_elem rfl _ _ 47 50 rfl Try.underlying47 _ 2 8 info_wait rfl (by decide) hoa rfl hbx rfl rfl (wait_one x) (by rw [List.length_map, HN.out]; omega) (by rw [List.length_map, HN.out]; omega) hga.size ?_; intro g' cap wc hoc hgc hkc; have hgD := hgB)
      | (refine step_append_elem rfl _ _ 47 50 rfl Try.underlying47 _ 2 8 info_wait rfl (by decide) (hoa.grown (World.grownBy_alloc _ (.cells (waitCells x).toArray 50) none)) rfl (heap_new_at _ _ _ (by simp)) rfl rfl (wait_one x) (by rw [List.length_map, HN.out]; omega) (by rw [List.length_map, HN.out]; omega) (Nat.le_trans hga.size (World.grownBy_alloc _ _ none).size) ?_; intro g' cap wc hoc hgc hkc; have hgD := growA _ (.cells (waitCells x).toArray 50) hgB))
    all_goals (
      rw [List.length_map] at hoc
      have HOC := Lib.hid (OwnR.lies3 (L := L) (x := x) hoc)
      have HGC := Lib.hid (grown_row (grown_trans HG2.out hgD) (fun q h => by
        have h1 := (hoa.lt q h).1
        first
          | (with_reducible exact Nat.le_trans (grown_trans HG2.out hS0).size h1)
          | (with_reducible exact Nat.le_trans (grown_trans HG2.out hS2).size h1)) hgc)
      clear hoc hgc hgD hga hgB hoa hkc
      go_wp2_with fail
      go_ret2
      exact ⟨_, _, _, rfl, HOC.out, HGC.out⟩)

set_option maxHeartbeats 3200000 in
theorem q_leave (a : Option Addr) (n c : Nat) (L : List WaitP) (x : WaitP) (w : World) (hL : WaitList w a L) (hn : L.length = n) (hsm : n ≤ 100000) :
    Calls Try.prog 24 #[.slice a n c, .agg #[.int .u32 (x.1 : Int), .int .u8 (x.2.toNat : Int)]] w (Two w (leaveF L x)) := by
  have hA := World.grownBy_alloc w (.cells #[.int .u32 (x.1 : Int), .int .u8 (x.2.toNat : Int)] 50) none
  have HI := Lib.hid (sl_index a n c L x _ (hL.grown hA) hn (by unfold maxLen; omega))
  have HCL := Lib.hid (fun u (hg : w.grownBy u none) => sl_clone a n c L u (hL.grown hg) hn (by omega))
  have HA := Lib.hid hA; have HN := Lib.hid hn
  have XL := (Box.new w 50 [.int .u32 (x.1 : Int), .int .u8 (x.2.toNat : Int)] w.heap.size rfl).look
  clear hL hn hA
  by_cases hx : x ∈ L
  · rw [show idxW L x = (L.idxOf x : Int) from if_pos hx] at HI
    rw [show leaveF L x = (L.eraseIdx (L.idxOf x), 0) from if_pos hx]
    have hk := List.idxOf_lt_length_of_mem hx
    generalize L.idxOf x = k at *
    have hkn : k < n := HN.out ▸ hk
    have hk0 : (0 : Int) ≤ (k : Int) := by omega
    have hne : L ≠ [] := fun h => by rw [h] at hk; simp at hk
    have HNE := Lib.hid hne
    clear hx hk hne
    go_enter Try.func24, Try.ntmps24
    go_wp2_with fail
    refine HI.out.mono ?_
    rintro r w2 ⟨rfl, hg2⟩
    have HG2 := Lib.hid (grown_trans HA.out hg2)
    clear hg2 XL
    go_wp2_with fail
    refine (HCL.out _ HG2.out).mono ?_
    rintro r w3 ⟨v, rfl, ho, hg3⟩
    obtain ⟨g, cap, rfl, hB, hn1, hm1, hrow, hl3⟩ := ho.row HNE.out
    rw [HN.out] at hn1 ⊢
    have hd := sl_delete g n cap k (k + 1) L w3 hrow hl3 HN.out hn1 hm1 hkn rfl
    rw [show ((k + 1 : Nat) : Int) = (k : Int) + 1 from rfl] at hd
    have HD := Lib.hid hd; have HG3 := Lib.hid (grown_trans HG2.out hg3)
    have HBB := Lib.hid (Nat.le_trans HG2.out.size hB)
    clear ho hd hrow hl3 hg3 hB
    have HC := Lib.hid (show n - 1 ≤ cap ∧ cap ≤ maxLen from ⟨by omega, hm1⟩)
    clear hn1 hm1
    go_wp2_with fail
    refine HD.out.mono ?_
    rintro r w4 ⟨rfl, hl4, hg4⟩
    have HL4 := Lib.hid hl4; have HG4 := Lib.hid (grown_new HG3.out HBB.out hg4)
    clear hl4 hg4
    go_wp2_with fail
    go_ret2
    exact ⟨_, _, _, rfl, ⟨HL4.out, by simp only; rw [List.length_eraseIdx, if_pos (by rw [HN.out]; exact hkn), HN.out], HC.out⟩, HG4.out⟩
  · rw [idxW_none hx] at HI
    rw [show leaveF L x = (L, 10) from if_neg hx]
    clear hx
    go_enter Try.func24, Try.ntmps24
    go_wp2_with fail
    refine HI.out.mono ?_
    rintro r w2 ⟨rfl, hg2⟩
    have HG2 := Lib.hid (grown_trans HA.out hg2)
    clear hg2 XL
    go_wp2_with fail
    refine (HCL.out _ HG2.out).mono ?_
    rintro r w3 ⟨v, rfl, ho, hg3⟩
    obtain ⟨a3, c3, rfl, hl3⟩ := ho.lies
    have HL3 := Lib.hid hl3; have HG3 := Lib.hid (grown_trans HG2.out hg3)
    clear ho hl3 hg3
    go_wp2_with fail
    go_ret2
    exact ⟨_, _, _, rfl, HN.out ▸ HL3.out, HG3.out⟩

theorem sl_deleteFunc_none (a : Option Addr) (c : Nat) (q : Int) (B : Nat) (w : World) (hB : w.cell? ⟨B, 0, none⟩ = some (.int .u32 q)) :
    Calls Try.prog 44 #[.slice a 0 c, .func (.func 45) #[] #[.pointer (some ⟨B, 0, none⟩)]] w fun r w' => r = .returned (.slice a 0 c) ∧ w.grownBy w' none := by
  have HI := Lib.hid (sl_indexFunc a 0 c [] q B w (WaitList.nil _ _) rfl (by simp [maxLen]) hB)
  clear hB
  go_enter Try.func44, Try.ntmps44
  go_wp2_with fail
  refine HI.out.mono ?_
  rintro r w1 ⟨z, rfl, hz, hg1⟩
  rcases hz with ⟨rfl, hall⟩ | ⟨k, hk, _⟩
  · have HG1 := Lib.hid hg1
    clear hg1 hall
    go_wp2_with fail
    go_ret
    exact ⟨rfl, HG1.out⟩
  · exact absurd hk (by simp)

set_option maxHeartbeats 3200000 in
theorem q_quit (a : Option Addr) (n c : Nat) (L : List WaitP) (q : Int) (w : World) (hL : WaitList w a L) (hn : L.length = n) (hsm : n ≤ 100000) :
    Calls Try.prog 31 #[.slice a n c, .int .u32 q] w (One w (quitF L q)) := by
  have hA := World.grownBy_alloc w (.cells #[.int .u32 q] 48) none
  have HCL := Lib.hid (sl_clone a n c L _ (hL.grown hA) hn (by omega))
  have hcell : (w.alloc (.cells #[.int .u32 q] 48)).cell? ⟨w.heap.size, 0, none⟩ = some (.int .u32 q) := (Box.new w 48 [.int .u32 q] w.heap.size rfl).look 0
  have hsz : (w.alloc (.cells #[.int .u32 q] 48)).heap.size = w.heap.size + 1 := by simp
  have HA := Lib.hid hA; have HN := Lib.hid hn; have HCE := Lib.hid hcell; have HSZ := Lib.hid hsz
  clear hL hn hA hcell hsz
  go_enter Try.func31, Try.ntmps31
  go_wp2_with fail
  refine HCL.out.mono ?_
  rintro r w2 ⟨v, rfl, ho, hg2⟩
  have HG2 := Lib.hid (grown_trans HA.out hg2)
  have HC2 := Lib.hid (grown_cell hg2 HCE.out)
  by_cases hne : L = []
  · subst hne
    obtain ⟨a2, c2, rfl, hl2⟩ := ho.lies
    have HL2 := Lib.hid hl2
    have HD := Lib.hid (sl_deleteFunc_none a2 c2 q w.heap.size w2 HC2.out)
    clear ho hl2 hg2
    simp only [List.length_nil] at HL2 ⊢
    go_wp2_with fail
    refine HD.out.mono ?_
    rintro r w3 ⟨rfl, hg3⟩
    have HG3 := Lib.hid (grown_trans HG2.out hg3)
    have HL3 := Lib.hid (HL2.out.grown hg3)
    clear hg3
    go_wp2_with fail
    go_ret
    exact ⟨_, _, _, rfl, HL3.out, HG3.out⟩
  · obtain ⟨g, cap, rfl, hB, hn1, hm1, hrow, hl3⟩ := ho.row hne
    rw [HN.out] at hn1 ⊢
    rw [HSZ.out] at hB
    have HD := Lib.hid (sl_deleteFunc g n cap L q w.heap.size w2 hrow hl3 HN.out hn1 hm1 HC2.out (by omega))
    have HC := Lib.hid (show n ≤ cap ∧ cap ≤ maxLen from ⟨hn1, hm1⟩)
    clear ho hrow hl3 hg2 hn1 hm1 hne
    go_wp2_with fail
    refine HD.out.mono ?_
    rintro r w3 ⟨m, rfl, hm, hl3, hg3⟩
    have hmn : m ≤ n := by rw [← hm, ← HN.out]; exact List.length_filter_le _ _
    have HL3 := Lib.hid (show Lies w3 (some ⟨g, 0, none⟩) m cap (quitF L q) from ⟨hl3, hm, by have := HC.out.1; omega, HC.out.2⟩)
    have HG3 := Lib.hid (grown_new HG2.out (by omega) hg3)
    clear hl3 hm hg3 hmn
    go_wp2_with fail
    go_ret
    exact ⟨_, _, _, rfl, HL3.out, HG3.out⟩

end Go.Proofs.Ytnikeceeclfnpaa
