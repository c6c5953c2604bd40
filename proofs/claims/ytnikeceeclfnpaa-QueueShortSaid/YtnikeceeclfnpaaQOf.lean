/-
  Who waits for an article; where.
-/
import Derived.Test.YtnikeceeclfnpaaQFns
namespace Go.Proofs.Ytnikeceeclfnpaa
open Go.RowKit
set_option maxRecDepth 100000

theorem info_u32 : (Try.prog.info? 48).map (fun i => (i.zero, i.size, i.bytes)) = some (some (.int .u32 0), 1, 4) := by kernel_rfl
def ofF (L : List WaitP) (s : UInt8) : List Nat := (L.filter fun x => decide (x.2 = s)).map (·.1)
def numC (o : Nat) : List Value := [.int .u32 (o : Int)]
theorem num_one (o : Nat) : ∀ u ∈ numC o, u.oneCell' = true := by
  intro u hu
  simp only [numC, List.mem_cons, List.not_mem_nil, or_false] at hu
  rw [hu]; rfl
def NumList (w : World) (a : Option Addr) (l : List Nat) : Prop := ∀ i (h : i < l.length), ∃ b o, a = some ⟨b, o, none⟩ ∧ w.cell? ⟨b, o + i, none⟩ = some (.int .u32 (l[i] : Int))
theorem NumList.grown {w w' : World} {a : Option Addr} {l : List Nat} (h : NumList w a l) (hg : w.grownBy w' none) : NumList w' a l := fun i hi => by
  obtain ⟨b, o, e, h0⟩ := h i hi
  exact ⟨b, o, e, grown_cell hg h0⟩
theorem OwnR.nums {w : World} {B : Nat} {v : Value} {l : List Nat} (h : OwnR w B 48 1 v (l.map numC)) : ∃ a c, v = .slice a l.length c ∧ NumList w a l := by
  obtain ⟨a, c, hv⟩ := h.len
  rw [List.length_map] at hv
  subst hv
  refine ⟨a, c, rfl, fun i hi => ?_⟩
  obtain ⟨b, o, e, hc⟩ := h.elems i (by simpa using hi)
  refine ⟨b, o, e, ?_⟩
  have := hc 0 (by decide)
  simpa [numC] using this
theorem ofF_snoc {L : List WaitP} {s : UInt8} {k : Nat} (hk : k < L.length) : ofF (L.take (k + 1)) s = ofF (L.take k) s ++ (if L[k].2 = s then [L[k].1] else []) := by
  unfold ofF
  rw [filter_take_snoc hk, List.map_append]
  congr 1
  by_cases h : L[k].2 = s <;> simp [h]
theorem ofF_len (L : List WaitP) (s : UInt8) : (ofF L s).length ≤ L.length := by
  unfold ofF
  rw [List.length_map]
  exact List.length_filter_le _ _
theorem u8_eq (x y : UInt8) : ((x.toNat : Int) == (y.toNat : Int)) = decide (x = y) := by
  by_cases h : x = y
  · subst h; simp
  · rw [decide_eq_false h, beq_eq_false_iff_ne]
    intro e
    exact h (UInt8.toNat_inj.1 (by omega))
theorem nat_eq (x y : Nat) : ((x : Int) == (y : Int)) = decide (x = y) := by
  by_cases h : x = y
  · subst h; simp
  · rw [decide_eq_false h, beq_eq_false_iff_ne]
    omega
def Nums (w : World) (l : List Nat) (r : Ending) (w' : World) : Prop := ∃ a c, r = .returned (.slice a l.length c) ∧ NumList w' a l ∧ w.grownBy w' none
def OfRel (w : World) (L : List WaitP) (s : UInt8) (n : Nat) (v i : Value) (wr : World) : Prop :=
  ∃ k : Nat, k ≤ n ∧ i = .int .i64 k ∧ OwnR wr w.heap.size 48 1 v ((ofF (L.take k) s).map numC) ∧ w.grownBy wr none
theorem OfRel.next {w wr wx wc : World} {L : List WaitP} {s : UInt8} {n k : Nat} {v : Value} {g cap m : Nat} {y : WaitP} (hk : k < L.length) (hkn : k < n) (hy : L[k] = y) (hs : y.2 = s)
    (ho : OwnR wr w.heap.size 48 1 v ((ofF (L.take k) s).map numC)) (hg : w.grownBy wx none)
    (hoc : OwnR wc w.heap.size 48 1 (.slice (some ⟨g, 0, none⟩) m cap) ((ofF (L.take k) s).map numC ++ [numC y.1])) (hgc : wx.grownBy wc v.ownBlock) :
    OfRel w L s n (.slice (some ⟨g, 0, none⟩) m cap) (.int .i64 ((k + 1 : Nat) : Int)) wc := by
  refine ⟨k + 1, hkn, rfl, ?_, grown_row hg (fun q h => (ho.lt q h).1) hgc⟩
  rw [ofF_snoc hk, hy, if_pos hs, List.map_append]
  exact hoc
theorem OfRel.skip {w wr wx : World} {L : List WaitP} {s : UInt8} {n k : Nat} {v : Value} {y : WaitP} (hk : k < L.length) (hkn : k < n) (hy : L[k] = y) (hs : ¬ y.2 = s)
    (ho : OwnR wr w.heap.size 48 1 v ((ofF (L.take k) s).map numC)) (hg : w.grownBy wr none) (hx : wr.grownBy wx none) :
    OfRel w L s n v (.int .i64 ((k + 1 : Nat) : Int)) wx := by
  refine ⟨k + 1, hkn, rfl, ?_, grown_trans hg hx⟩
  rw [ofF_snoc hk, hy, if_neg hs, List.append_nil]
  exact ho.grown hx
set_option maxHeartbeats 3200000 in
theorem q_of (a : Option Addr) (n c : Nat) (L : List WaitP) (s : UInt8) (w : World) (hL : WaitList w a L) (hn : L.length = n) (hsm : n ≤ 100000) :
    Calls Try.prog 28 #[.slice a n c, .int .u8 (s.toNat : Int)] w (Nums w (ofF L s)) := by
  have HL := Lib.hid hL; have HN := Lib.hid hn
  clear hL hn
  go_enter Try.func28, Try.ntmps28
  go_wp2_with fail
  go_loopw [5, 10] (fun v i wr => OfRel w L s n v i wr) (fun _ i _ => n - (intOf i).toNat)
  case atStart => exact ⟨0, Nat.zero_le _, rfl, OwnR.nil _ _ _ _, World.grownBy.refl _ _⟩
  case round =>
    obtain ⟨k, hk, rfl, ho, hg⟩ := hrel
    have HG := Lib.hid hg; have HO := Lib.hid ho
    clear hg ho
    by_cases hlt : k < n
    · have hkl : k < L.length := by rw [HN.out]; exact hlt

      obtain ⟨y, he⟩ : ∃ e, L[k]'hkl = e := ⟨_, rfl⟩
      obtain ⟨b, o, rfl, h0, h1⟩ := HL.out k hkl
      rw [he] at h0 h1
      have d0 := grown_cell HG.out h0
      have d1 := grown_cell HG.out h1
      have HE := Lib.hid he
      have i0 : (0 : Int) ≤ (k : Int) := by omega
      have i1 : (k : Int) < (n : Int) := by omega
      have HLE := Lib.hid (show (ofF (L.take k) s).length ≤ 100000 from by
        have h1 := ofF_len (L.take k) s
        have h2 := List.length_take_le k L
        omega)
      have XL := (Box.new wr 50 [.int .u32 (y.1 : Int), .int .u8 (y.2.toNat : Int)] wr.heap.size rfl).look
      have HGA := Lib.hid (World.grownBy_alloc wr (.cells #[.int .u32 (y.1 : Int), .int .u8 (y.2.toNat : Int)] 50) none)
      have HSZ := Lib.hid (show w.heap.size ≤ ((wr.alloc (.cells #[.int .u32 (y.1 : Int), .int .u8 (y.2.toNat : Int)] 50)).alloc (.cells #[.int .u32 (y.1 : Int)] 48)).heap.size by have := HG.out.size; simp; omega)
      have hq := u8_eq y.2 s
      clear h0 h1 he
      by_cases hs : y.2 = s
      · rw [decide_eq_true hs] at hq
        have HS := Lib.hid hs
        clear hs
        go_wp2_with (at_builtin; refine wpList_append_elem (o := ⟨some 22, _, _, _, _, _⟩) rfl _ _ 57 48 rfl Try.underlying57 _ 1 4 info_u32 rfl (by decide) (HO.out.grown (growA _ _ HGA.out)) rfl (heap_new_at _ _ _ (by simp)) rfl rfl (num_one y.1) (by rw [List.length_map]; have := HLE.out; omega) (by rw [List.length_map]; have := HLE.out; omega) HSZ.out ?_)
        intro g cap wc hoc hgc hkc
        have hrel2 := OfRel.next (n := n) hkl hlt HE.out HS.out HO.out (growA _ _ (grown_trans HG.out HGA.out)) hoc hgc
        have HREL := Lib.hid hrel2
        clear hoc hgc hkc XL d0 d1 hrel2
        go_wp2_with fail
        go_roundw
        all_goals first
          | exact HREL.out
          | (simp [intOf]; omega)
      · rw [decide_eq_false hs] at hq
        have HREL := Lib.hid (OfRel.skip (n := n) hkl hlt HE.out hs HO.out HG.out HGA.out)
        clear hs
        go_wp2_with fail
        go_roundw
        all_goals first
          | exact HREL.out
          | (simp [intOf]; omega)
    · obtain rfl : k = n := by omega
      have ho := HO.out
      rw [List.take_of_length_le (by rw [HN.out]; exact Nat.le_refl _)] at ho
      obtain ⟨a9, c9, rfl, hl9⟩ := ho.nums
      have HL9 := Lib.hid hl9
      clear ho hl9
      go_wp2_with fail
      go_ret
      exact ⟨_, _, rfl, HL9.out, HG.out⟩

end Go.Proofs.Ytnikeceeclfnpaa
