/-
  Who waits: an order's entries are taken out.
-/
import Derived.Test.YtnikeceeclfnpaaQDel
namespace Go.Proofs.Ytnikeceeclfnpaa
open Go.RowKit
set_option maxRecDepth 100000

def FirstQ (L : List WaitP) (q : Int) (z : Int) : Prop :=
  (z = -1 ∧ ∀ x ∈ L, ((x.1 : Int) == q) = false) ∨ ∃ (k : Nat) (h : k < L.length), z = (k : Int) ∧ (∀ x ∈ L.take k, ((x.1 : Int) == q) = false) ∧ ((L[k].1 : Int) == q) = true
def IdxQRel (w : World) (L : List WaitP) (q : Int) (n : Nat) (i : Value) (wr : World) : Prop := ∃ k : Nat, k ≤ n ∧ i = .int .i64 k ∧ (∀ x ∈ L.take k, ((x.1 : Int) == q) = false) ∧ w.grownBy wr none
theorem take_snoc_all {L : List WaitP} {p : WaitP → Prop} {k : Nat} (hk : k < L.length) (he : p L[k]) (hno : ∀ x ∈ L.take k, p x) : ∀ x ∈ L.take (k + 1), p x := by
  rw [List.take_succ_eq_append_getElem hk]
  intro x h
  rcases List.mem_append.1 h with h | h
  · exact hno x h
  · rw [List.mem_singleton] at h
    rw [h]; exact he

set_option maxHeartbeats 1600000 in
theorem sl_indexFunc (a : Option Addr) (n c : Nat) (L : List WaitP) (q : Int) (B : Nat) (w : World) (hL : WaitList w a L) (hn : L.length = n) (hm : n ≤ maxLen) (hc : w.cell? ⟨B, 0, none⟩ = some (.int .u32 q)) :
    Calls Try.prog 46 #[.slice a n c, .func (.func 45) #[] #[.pointer (some ⟨B, 0, none⟩)]] w fun r w' => ∃ z, r = .returned (.int .i64 z) ∧ FirstQ L q z ∧ w.grownBy w' none := by
  have HL := Lib.hid hL; have HN := Lib.hid hn; have HC := Lib.hid hc
  have hmx : n ≤ 9223372036854775807 := hm
  clear hL hn hm hc
  go_enter Try.func46, Try.ntmps46
  go_wp2_with fail
  go_loopw [8] (fun i wr => IdxQRel w L q n i wr) (fun i _ => n - (intOf i).toNat)
  case atStart => exact ⟨0, Nat.zero_le _, rfl, by simp, World.grownBy.refl _ _⟩
  case round =>
    obtain ⟨k, hk, rfl, hno, hg⟩ := hrel
    have HG := Lib.hid hg; have HNO := Lib.hid hno
    clear hg hno
    by_cases hlt : k < n
    · have hkl : k < L.length := by rw [HN.out]; exact hlt
      obtain ⟨y, he⟩ : ∃ e, L[k]'hkl = e := ⟨_, rfl⟩
      obtain ⟨b, o, rfl, h0, h1⟩ := HL.out k hkl
      rw [he] at h0 h1
      have d0 := grown_cell HG.out h0
      have d1 := grown_cell HG.out h1
      have HE := Lib.hid he
      have i0 : (0 : Int) ≤ (k : Int) := by omega
      have i1 : (k : Int) < (n : Int) := by omega
      have HF := Lib.hid (quit_fn y q B wr (grown_cell HG.out HC.out))
      obtain ⟨t, ht⟩ : ∃ t, ((y.1 : Int) == q) = t := ⟨_, rfl⟩
      rw [ht] at HF
      have HT := Lib.hid ht
      clear h0 h1 he ht
      cases t
      · go_wp2_with fail
        refine HF.out.mono ?_
        rintro r w2 ⟨rfl, hg2⟩
        have HG2 := Lib.hid (grown_trans HG.out hg2)
        clear hg2 d0 d1
        go_wp2_with fail
        go_roundw
        all_goals first
          | (exact ⟨k + 1, by omega, by go_num, take_snoc_all (p := fun x => ((x.1 : Int) == q) = false) (HN.out ▸ hlt) (by simp only [HE.out]; exact HT.out) HNO.out, HG2.out⟩)
          | (simp [intOf]; omega)
      · go_wp2_with fail
        refine HF.out.mono ?_
        rintro r w2 ⟨rfl, hg2⟩
        have HG2 := Lib.hid (grown_trans HG.out hg2)
        clear hg2 d0 d1
        go_wp2_with fail
        go_ret
        exact ⟨_, rfl, .inr ⟨k, HN.out ▸ hlt, rfl, HNO.out, by simp only [HE.out]; exact HT.out⟩, HG2.out⟩
    · obtain rfl : k = n := by omega
      go_wp2_with fail
      go_ret
      refine ⟨_, rfl, .inl ⟨rfl, ?_⟩, HG.out⟩
      have := HNO.out
      rwa [List.take_of_length_le (by rw [HN.out]; exact Nat.le_refl _)] at this
def keepQ (q : Int) (x : WaitP) : Bool := !((x.1 : Int) == q)
theorem WaitList.put {w : World} {g m i : Nat} {K : List WaitP} (y : WaitP) (h : WaitList w (some ⟨g, 0, none⟩) K) (hr : RowW w g m) (hi : K.length = i) (hm : i * 2 + 2 ≤ m) :
    WaitList (w.setCells g (i * 2) (waitCells y)) (some ⟨g, 0, none⟩) (K ++ [y]) := by
  intro t ht
  rw [List.length_append, List.length_singleton] at ht
  by_cases hlt : t < K.length
  · rw [List.getElem_append_left hlt]
    obtain ⟨b, o, e, h0, h1⟩ := h t hlt
    cases e
    refine ⟨_, _, rfl, ?_, ?_⟩
    · rw [World.cell?_setCells_out g _ _ w _ (fun _ _ => .inl (by simp only; omega))]; exact h0
    · rw [World.cell?_setCells_out g _ _ w _ (fun _ _ => .inl (by simp only; omega))]; exact h1
  · obtain rfl : t = K.length := by omega
    subst hi
    rw [List.getElem_append_right (Nat.le_refl _)]
    simp only [Nat.sub_self, List.getElem_cons_zero]
    have hin := World.cell?_setCells_in g (waitCells y) (K.length * 2) w (fun j hj => (hr _ (by simp [waitCells] at hj; omega)).1)
    refine ⟨_, _, rfl, ?_, ?_⟩
    · rw [show 0 + K.length * 2 = K.length * 2 + 0 by omega]; exact hin 0 (by simp [waitCells])
    · rw [show 0 + K.length * 2 + 1 = K.length * 2 + 1 by omega]; exact hin 1 (by simp [waitCells])
theorem WaitAt.put {w : World} {g i t : Nat} {x : WaitP} (y : WaitP) (h : WaitAt w (some ⟨g, 0, none⟩) t x) (hi : i < t) : WaitAt (w.setCells g (i * 2) (waitCells y)) (some ⟨g, 0, none⟩) t x := by
  obtain ⟨b, o, e, h0, h1⟩ := h
  cases e
  refine ⟨_, _, rfl, ?_, ?_⟩
  · rw [World.cell?_setCells_out g _ _ w _ (fun _ _ => .inr (by simp [waitCells]; omega))]; exact h0
  · rw [World.cell?_setCells_out g _ _ w _ (fun _ _ => .inr (by simp [waitCells]; omega))]; exact h1
theorem filter_take_snoc {L : List WaitP} {p : WaitP → Bool} {j : Nat} (hj : j < L.length) : (L.take (j + 1)).filter p = (L.take j).filter p ++ (if p L[j] then [L[j]] else []) := by
  rw [List.take_succ_eq_append_getElem hj, List.filter_append]
  congr 1
  by_cases h : p L[j] <;> simp [h]
def DelRel (w : World) (g m n : Nat) (q : Int) (L : List WaitP) (s5 s6 : Value) (wr : World) : Prop :=
  ∃ i j : Nat, s5 = .int .i64 i ∧ s6 = .int .i64 j ∧ j ≤ n ∧ i < j ∧ ((L.take j).filter (keepQ q)).length = i ∧ WaitList wr (some ⟨g, 0, none⟩) ((L.take j).filter (keepQ q)) ∧
    (∀ t (ht : t < L.length), j ≤ t → WaitAt wr (some ⟨g, 0, none⟩) t L[t]) ∧ RowW wr g m ∧ w.grownBy wr (some g)
set_option maxHeartbeats 3200000 in
theorem sl_deleteFunc (g n cap : Nat) (L : List WaitP) (q : Int) (B : Nat) (w : World) (hrow : RowW w g (cap * 2)) (hL : WaitList w (some ⟨g, 0, none⟩) L) (hn : L.length = n) (hc : n ≤ cap) (hm : cap ≤ maxLen) (hB : w.cell? ⟨B, 0, none⟩ = some (.int .u32 q)) (hBg : B ≠ g) :
    Calls Try.prog 44 #[.slice (some ⟨g, 0, none⟩) n cap, .func (.func 45) #[] #[.pointer (some ⟨B, 0, none⟩)]] w fun r w' =>
      ∃ m, r = .returned (.slice (some ⟨g, 0, none⟩) m cap) ∧ (L.filter (keepQ q)).length = m ∧ WaitList w' (some ⟨g, 0, none⟩) (L.filter (keepQ q)) ∧ w.grownBy w' (some g) := by
  have HI := Lib.hid (sl_indexFunc (some ⟨g, 0, none⟩) n cap L q B w hL hn (by unfold maxLen at *; omega) hB)
  have hmx : cap ≤ 9223372036854775807 := hm
  have HROW := Lib.hid hrow; have HL := Lib.hid hL; have HN := Lib.hid hn; have HB := Lib.hid hB; have HBG := Lib.hid hBg
  have hnx : n ≤ 9223372036854775807 := by omega
  have icn : (n : Int) ≤ (cap : Int) := by omega
  have HBlt := Lib.hid (World.block_lt_of_cell? w _ hB)
  clear hrow hL hn hm hB hBg
  go_enter Try.func44, Try.ntmps44
  go_wp2_with fail
  refine HI.out.mono ?_
  rintro r w1 ⟨z, rfl, hz, hg1⟩
  have HG1 := Lib.hid hg1
  have HL1 := Lib.hid (HL.out.grown hg1); have HROW1 := Lib.hid (HROW.out.grown hg1)
  clear hg1
  rcases hz with ⟨rfl, hall⟩ | ⟨k, hk, rfl, hno, hat⟩
  · have hf : L.filter (keepQ q) = L := by
      rw [List.filter_eq_self]
      intro x hx
      unfold keepQ
      rw [hall x hx]; rfl
    have HF := Lib.hid hf
    clear hall hf
    go_wp2_with fail
    go_ret
    exact ⟨n, rfl, by rw [HF.out]; exact HN.out, by rw [HF.out]; exact HL1.out, grown_any _ HG1.out⟩
  · have hne : ((k : Int) == -1) = false := by rw [beq_eq_false_iff_ne]; omega
    have HS := Lib.hid (show ((L.take (k + 1)).filter (keepQ q)) = L.take k by
      rw [filter_take_snoc hk, if_neg (by unfold keepQ; rw [hat]; simp), List.append_nil, List.filter_eq_self]
      intro x hx
      unfold keepQ
      rw [hno x hx]; rfl)
    have hkn : k < n := HN.out ▸ hk
    clear hno hat hk
    go_wp2_with fail
    go_loopw [5, 6] (fun s5 s6 wr => DelRel w g (cap * 2) n q L s5 s6 wr) (fun _ s6 _ => n - (intOf s6).toNat)
    case atStart =>
      refine ⟨k, k + 1, rfl, by go_num, by omega, by omega, ?_, ?_, fun t ht _ => HL1.out t ht, HROW1.out, grown_any _ HG1.out⟩
      · rw [HS.out, List.length_take, HN.out]; omega
      · rw [HS.out]; exact HL1.out.take k
    case round =>
      obtain ⟨i, j, rfl, rfl, hjn, hij, hlen, hlist, hrest, hrow, hg⟩ := hrel
      have HLEN := Lib.hid hlen; have HLIST := Lib.hid hlist; have HREST := Lib.hid hrest; have HRW := Lib.hid hrow; have HG := Lib.hid hg
      have hcB : wr.cell? ⟨B, 0, none⟩ = some (.int .u32 q) := (hg.cell_far ⟨B, 0, none⟩ HBlt.out (by simpa using HBG.out)).trans HB.out
      have HCB := Lib.hid hcB
      clear hlen hlist hrest hrow hg hcB
      by_cases hlt : j < n
      · have hjl : j < L.length := by rw [HN.out]; exact hlt
        obtain ⟨y, he⟩ : ∃ e, L[j]'hjl = e := ⟨_, rfl⟩
        obtain ⟨b, o, hbo, d0, d1⟩ := HREST.out j hjl (Nat.le_refl _)
        cases hbo
        rw [he] at d0 d1
        simp only [Nat.zero_add] at d0 d1
        have HE := Lib.hid he
        have i0 : (0 : Int) ≤ (j : Int) := by omega
        have i1 : (j : Int) < (n : Int) := by omega
        have i2 : (0 : Int) ≤ (i : Int) := by omega
        have i3 : (i : Int) < (n : Int) := by omega
        have hA := World.grownBy_alloc wr (.cells #[.int .u32 (y.1 : Int), .int .u8 (y.2.toNat : Int)] 50) none
        have HA := Lib.hid hA
        have hbx := Box.new wr 50 [.int .u32 (y.1 : Int), .int .u8 (y.2.toNat : Int)] wr.heap.size rfl
        have XL := hbx.look
        have HBX := Lib.hid hbx
        have HF := Lib.hid (quit_fn y q B _ (grown_cell hA HCB.out))
        obtain ⟨t, ht⟩ : ∃ t, ((y.1 : Int) == q) = t := ⟨_, rfl⟩
        rw [ht] at HF
        have HT := Lib.hid ht
        have HST := Lib.hid (filter_take_snoc (p := keepQ q) hjl)
        clear he ht hA hbx
        cases t
        · go_wp2_with fail
          refine HF.out.mono ?_
          rintro r w2 ⟨rfl, hg2⟩
          have hgw := grown_trans HA.out hg2
          have HGW := Lib.hid hgw
          have hr2 := HRW.out.grown hgw
          have XL2 := (HBX.out.grown hg2).look
          obtain ⟨u0, c0⟩ := Option.isSome_iff_exists.1 (hr2 (i * 2) (by omega)).1
          obtain ⟨u1, c1⟩ := Option.isSome_iff_exists.1 (hr2 (i * 2 + 1) (by omega)).1
          have f0 := (hr2 (i * 2) (by omega)).2
          have f1 := (hr2 (i * 2 + 1) (by omega)).2
          have c2 : (w2.setCell ⟨g, i * 2, none⟩ (.int .u32 (y.1 : Int))).cell? ⟨g, i * 2 + 1, none⟩ = some u1 := (set_idx w2 g (i * 2) (i * 2 + 1) _ (by omega)).trans c1
          have HR2 := Lib.hid hr2
          clear d0 d1 XL hg2 hgw hr2
          go_wp2_with fail
          go_roundw
          all_goals first
            | (refine ⟨i + 1, j + 1, by go_num, by go_num, by omega, by omega, ?_, ?_, ?_, ?_, ?_⟩
               · rw [HST.out, if_pos (by simp only [HE.out]; unfold keepQ; rw [HT.out]; rfl), List.length_append, HLEN.out]; rfl
               · rw [HST.out, if_pos (by simp only [HE.out]; unfold keepQ; rw [HT.out]; rfl), HE.out]
                 exact (HLIST.out.grown HGW.out).put y HR2.out HLEN.out (by omega)
               · intro t ht hjt
                 exact ((HREST.out t ht (by omega)).grown HGW.out).put y (by omega)
               · exact HR2.out.set (i * 2) (waitCells y) (by simp [waitCells]; omega)
               · exact grown_same (grown_trans' HG.out HGW.out) (grown_setCells g (waitCells y) (i * 2) w2))
            | (simp [intOf]; omega)
        · go_wp2_with fail
          refine HF.out.mono ?_
          rintro r w2 ⟨rfl, hg2⟩
          have HGW := Lib.hid (grown_trans HA.out hg2)
          clear d0 d1 XL hg2
          go_wp2_with fail
          go_roundw
          all_goals first
            | (refine ⟨i, j + 1, rfl, by go_num, by omega, by omega, ?_, ?_, fun t ht hjt => (HREST.out t ht (by omega)).grown HGW.out, HRW.out.grown HGW.out, grown_trans' HG.out HGW.out⟩
               · rw [HST.out, if_neg (by simp only [HE.out]; unfold keepQ; rw [HT.out]; simp), List.append_nil]; exact HLEN.out
               · rw [HST.out, if_neg (by simp only [HE.out]; unfold keepQ; rw [HT.out]; simp), List.append_nil]; exact HLIST.out.grown HGW.out)
            | (simp [intOf]; omega)
      · obtain rfl : j = n := by omega
        obtain ⟨vs, hvl, hcl⟩ := run_clear_waits wr g (i * 2) (j - i) (cap - i) (by omega) (fun t ht => HRW.out _ (by omega))
        have hend : WaitList (wr.setCells g (i * 2) vs) (some ⟨g, 0, none⟩) (L.filter (keepQ q)) := by
          have hl := HLIST.out
          have hlen := HLEN.out
          rw [List.take_of_length_le (by rw [HN.out]; exact Nat.le_refl _)] at hl hlen
          intro t ht
          obtain ⟨b, o, e, h0, h1⟩ := hl t ht
          cases e
          refine ⟨_, _, rfl, ?_, ?_⟩
          · rw [World.cell?_setCells_out g _ _ wr _ (fun _ _ => .inl (by simp only; omega))]; exact h0
          · rw [World.cell?_setCells_out g _ _ wr _ (fun _ _ => .inl (by simp only; omega))]; exact h1
        have hlen := HLEN.out
        rw [List.take_of_length_le (by rw [HN.out]; exact Nat.le_refl _)] at hlen
        have HLF := Lib.hid hlen
        have HEND := Lib.hid hend
        have HGE := Lib.hid (grown_same HG.out (grown_setCells g vs (i * 2) wr))
        have i2 : (0 : Int) ≤ (i : Int) := by omega
        have i3 : (i : Int) ≤ (j : Int) := by omega
        have i4 : (i : Int) ≤ (cap : Int) := by omega
        have hcj : ¬ cap = i := by omega
        clear hend hlen hvl
        go_wp2_with fail
        go_ret
        exact ⟨i, rfl, HLF.out, HEND.out, HGE.out⟩

end Go.Proofs.Ytnikeceeclfnpaa
