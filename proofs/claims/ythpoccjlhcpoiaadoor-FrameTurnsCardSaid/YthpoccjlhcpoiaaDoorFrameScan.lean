/-
  The walks through the package frame, and the document's: 'Scan'; 'same'.
-/
import Derived.Test.YthpoccjlhcpoiaaDoorFrameRNext
namespace Go.Proofs.YthpoccjlhcpoiaaDoor
open Go.RowKit

theorem nextF_ok {l p : List UInt8} {m : Nat} (h : nextF l = (p, m, 0)) : m = 6 + p.length ∧ 1 ≤ p.length ∧ m ≤ l.length := by
  unfold nextF at h
  split at h
  · simp at h
  · split at h
    · simp at h
    · split at h
      · simp at h
      · split at h
        · simp at h
        · simp only [Prod.mk.injEq, and_true] at h
          obtain ⟨rfl, rfl⟩ := h
          rw [List.length_take, List.length_drop]
          omega

/-- what 'Scan' tells: the payloads, where it stops, what is wrong (k: rounds) -/
def scanK : Nat → List UInt8 → List (List UInt8) × Nat × Int
  | 0, _ => ([], 0, 0)
  | k + 1, l => if l.length = 0 then ([], 0, 0) else if (nextF l).2.2 ≠ 0 then ([], 0, (nextF l).2.2) else
      ((nextF l).1 :: (scanK k (l.drop (nextF l).2.1)).1, (nextF l).2.1 + (scanK k (l.drop (nextF l).2.1)).2.1, (scanK k (l.drop (nextF l).2.1)).2.2)
def scanF (l : List UInt8) : List (List UInt8) × Nat × Int := scanK l.length l
theorem scanK_more (k : Nat) : ∀ (j : Nat) (l : List UInt8), l.length ≤ k → l.length ≤ j → scanK k l = scanK j l := by
  induction k with
  | zero =>
    intro j l h1 _
    have h0 : l.length = 0 := by omega
    cases j with
    | zero => rfl
    | succ j => rw [scanK, scanK, if_pos h0]
  | succ k ih =>
    intro j l h1 h2
    cases j with
    | zero => have h0 : l.length = 0 := by omega
              rw [scanK, scanK, if_pos h0]
    | succ j =>
      rw [scanK, scanK]
      by_cases h0 : l.length = 0
      · rw [if_pos h0, if_pos h0]
      · rw [if_neg h0, if_neg h0]
        obtain ⟨⟨p, m, e⟩, ht⟩ : ∃ t, nextF l = t := ⟨_, rfl⟩
        rw [ht]
        simp only
        by_cases he : e ≠ 0
        · rw [if_pos he, if_pos he]
        · rw [if_neg he, if_neg he]
          have : e = 0 := by simpa using he
          subst this
          obtain ⟨h3, h4, h5⟩ := nextF_ok ht
          rw [ih j (l.drop m) (by rw [List.length_drop]; omega) (by rw [List.length_drop]; omega)]
theorem scanF_nil {l : List UInt8} (h : l.length = 0) : scanF l = ([], 0, 0) := by
  unfold scanF
  rw [h]
  rfl
theorem scanF_bad {l p : List UInt8} {m : Nat} {e : Int} (h : l.length ≠ 0) (ht : nextF l = (p, m, e)) (he : e ≠ 0) : scanF l = ([], 0, e) := by
  unfold scanF
  obtain ⟨k, hk⟩ : ∃ k, l.length = k + 1 := ⟨l.length - 1, by omega⟩
  rw [hk, scanK, if_neg h, ht]
  simp only
  rw [if_pos he]
theorem scanF_ok {l p : List UInt8} {m : Nat} (ht : nextF l = (p, m, 0)) : scanF l = (p :: (scanF (l.drop m)).1, m + (scanF (l.drop m)).2.1, (scanF (l.drop m)).2.2) := by
  obtain ⟨h3, h4, h5⟩ := nextF_ok ht
  unfold scanF
  obtain ⟨k, hk⟩ : ∃ k, l.length = k + 1 := ⟨l.length - 1, by omega⟩
  rw [hk, scanK, if_neg (by omega), ht]
  simp only
  rw [if_neg (by simp), scanK_more k (l.drop m).length (l.drop m) (by rw [List.length_drop]; omega) (Nat.le_refl _)]

theorem scanK_few (k : Nat) : ∀ l : List UInt8, (scanK k l).1.length ≤ l.length := by
  induction k with
  | zero => intro l; simp [scanK]
  | succ k ih =>
    intro l
    rw [scanK]
    split
    · simp
    · split
      · simp
      · rename_i he
        obtain ⟨⟨p, m, e⟩, ht⟩ : ∃ t, nextF l = t := ⟨_, rfl⟩
        rw [ht] at he ⊢
        have h0 : e = 0 := by simpa using he
        subst h0
        obtain ⟨h3, h4, h5⟩ := nextF_ok ht
        have := ih (l.drop m)
        rw [List.length_drop] at this
        simp only [List.length_cons]
        omega
theorem scanF_few (l : List UInt8) : (scanF l).1.length ≤ l.length := scanK_few _ _

/-- what was scanned up to a place -/
structure ScanAt (l : List UInt8) (bs : List (List UInt8)) (k : Nat) : Prop where
  le : k ≤ l.length
  few : bs.length ≤ k
  eq : scanF l = (bs ++ (scanF (l.drop k)).1, k + (scanF (l.drop k)).2.1, (scanF (l.drop k)).2.2)
theorem ScanAt.start (l : List UInt8) : ScanAt l [] 0 := ⟨Nat.zero_le _, Nat.le_refl _, by rw [List.drop_zero, List.nil_append, Nat.zero_add]⟩
theorem ScanAt.step {l p : List UInt8} {bs : List (List UInt8)} {k m : Nat} (h : ScanAt l bs k) (ht : nextF (l.drop k) = (p, m, 0)) : ScanAt l (bs ++ [p]) (k + m) := by
  obtain ⟨h3, h4, h5⟩ := nextF_ok ht
  rw [List.length_drop] at h5
  have := h.le
  refine ⟨by omega, by have := h.few; rw [List.length_append, List.length_singleton]; omega, ?_⟩
  rw [h.eq, scanF_ok ht, List.drop_drop, List.append_assoc, Nat.add_assoc]
  rfl
theorem ScanAt.end {l : List UInt8} {bs : List (List UInt8)} {k : Nat} (h : ScanAt l bs k) (hk : ¬ k < l.length) : scanF l = (bs, k, 0) := by
  rw [h.eq, scanF_nil (by rw [List.length_drop]; omega), List.append_nil]; rfl
theorem ScanAt.stop {l p : List UInt8} {bs : List (List UInt8)} {k m : Nat} {e : Int} (h : ScanAt l bs k) (hk : k < l.length) (ht : nextF (l.drop k) = (p, m, e)) (he : e ≠ 0) : scanF l = (bs, k, e) := by
  rw [h.eq, scanF_bad (by rw [List.length_drop]; omega) ht he, List.append_nil]; rfl

/-- a row of the call's own, of slices of bytes -/
def BytesRow (w : World) (B : Nat) (v : Value) (bs : List (List UInt8)) : Prop := ∃ xs, OwnV w B 22 v xs ∧ Slots w (Plus (fun _ => False) v) xs bs
theorem BytesRow.nil (w : World) (B : Nat) : BytesRow w B (.slice none 0 0) [] := ⟨[], OwnV.nil _ _ _, Slots.nil _ _⟩
theorem BytesRow.grown {w w' : World} {B : Nat} {v : Value} {bs : List (List UInt8)} (h : BytesRow w B v bs) (hg : w.grownBy w' none) : BytesRow w' B v bs := by
  obtain ⟨xs, h1, h2⟩ := h
  exact ⟨xs, h1.grown hg, h2.kept (Kept.of_grown hg)⟩
theorem BytesRow.snoc {w w2 : World} {B : Nat} {v : Value} {xs : List Value} {bs : List (List UInt8)} {g n c pn pc : Nat} {pa : Option Addr} {p : List UInt8} {o : Obj} (hs : Slots w (Plus (fun _ => False) v) xs bs) (ho2 : OwnV w2 B 22 (.slice (some ⟨g, 0, none⟩) n c) (xs ++ [.slice pa pn pc])) (hg2 : (w.alloc o).grownBy w2 v.ownBlock) (hl2 : v.ownBlock = some g ∨ (w.alloc o).heap.size ≤ g) (hn : p.length = pn) (hp : RX w (fun k => v.ownBlock = some k) pa p) :
    BytesRow w2 B (.slice (some ⟨g, 0, none⟩) n c) (bs ++ [p]) := by
  have hga := World.grownBy_alloc w o none
  refine ⟨_, ho2, Slots.snoc ((hs.kept (Kept.of_grown hga)).append hg2 hl2) hn ?_⟩
  intro i hi
  obtain ⟨b, k, e, hx, hc⟩ := hp i hi
  have hlt := World.block_lt_of_cell? w _ hc
  simp only at hlt hx
  refine ⟨b, k, e, ?_, ?_⟩
  · rintro (h | h)
    · exact h
    · have : g = b := by simpa [Value.ownBlock] using h
      subst this
      rcases hl2 with h | h
      · exact hx h
      · have := hga.size; omega
  · have h1 : (w.alloc o).cell? ⟨b, k + i, none⟩ = some (bval p[i]) := (World.cell?_of_block (a := ⟨b, k + i, none⟩) (hga.block b hlt (by simp))).trans hc
    exact (World.cell?_of_block (a := ⟨b, k + i, none⟩) (hg2.block b (by have := hga.size; simp at this ⊢; omega) (fun h => hx h.symm))).trans h1

def ScanPost (w : World) (t : List (List UInt8) × Nat × Int) (r : Ending) (w' : World) : Prop :=
  ∃ a n c, r = .returned (.tuple #[.slice a n c, .int .i64 (t.2.1 : Int), .int .i64 t.2.2]) ∧ t.1.length = n ∧ BytesRow w' w.heap.size (.slice a n c) t.1 ∧ w.grownBy w' none

def ScanRel (w : World) (l : List UInt8) (vo va : Value) (wr : World) : Prop :=
  ∃ (k : Nat) (xs : List Value) (bs : List (List UInt8)), va = .int .i64 k ∧ OwnV wr w.heap.size 22 vo xs ∧ Slots wr (Plus (fun _ => False) vo) xs bs ∧ ScanAt l bs k ∧ w.grownBy wr none

set_option maxRecDepth 100000 in
set_option maxHeartbeats 3200000 in
theorem frame_scan {X : Nat → Prop} (a : Option Addr) (n cap : Nat) (l : List UInt8) (w : World) (hs : RS w X a n cap l) (hm : n ≤ 100000) (hT : Tab w) :
    Calls Tryd.prog 13 #[.slice a n cap] w (ScanPost w (scanF l)) := by
  have HS := Lib.hid hs; have HT := Lib.hid hT
  have hcap := hs.le
  clear hs hT
  go_enter Tryd.func13, Tryd.ntmps13
  go_wp2_with fail
  go_step3
  go_wp2_with fail
  go_step3
  go_wp2_with fail
  go_loopw [5, 6, 7] (fun vo va ve wr => ve = .int .i64 0 ∧ ScanRel w l vo va wr) (fun _ va _ _ => n - (intOf va).toNat)
  case atStart => exact ⟨rfl, 0, [], [], rfl, OwnV.nil _ _ _, Slots.nil _ _, ScanAt.start l, World.grownBy.refl _ _⟩
  case round =>
    obtain ⟨rfl, k, xs, bs, rfl, hO, hSl, hA, hg⟩ := hrel
    obtain ⟨oa, on, oc, rfl, hon⟩ := hO.len
    have HO := Lib.hid hO; have HSL := Lib.hid hSl; have HA := Lib.hid hA; have HG := Lib.hid hg; have HON := Lib.hid hon
    have hkn : k ≤ n := by rw [← HS.out.len]; exact hA.le
    clear hO hSl hA hg hon
    by_cases hlt : k < n
    · have i0 : (0 : Int) ≤ (k : Int) := by omega
      have i1 : (k : Int) < (n : Int) := by omega
      have i2 : (k : Int) < (cap : Int) := by omega
      have i3 : (k : Int) ≤ (n : Int) := by omega
      have i4 : (n : Int) ≤ (cap : Int) := by omega
      have HD := Lib.hid (show RS wr X (Option.map (fun x => x.add k) a) (n - k) (cap - k) (l.drop k) from ⟨by rw [List.length_drop, HS.out.len], by omega, by have := HS.out.max; omega, (HS.out.rx.drop k).kept (Kept.of_grown HG.out)⟩)
      have HC := Lib.hid (frame_next _ _ _ _ wr HD.out (by omega) (HT.out.grown HG.out))
      obtain ⟨⟨p, m, e⟩, hp⟩ : ∃ t, nextF (l.drop k) = t := ⟨_, rfl⟩
      rw [hp] at HC
      have HP := Lib.hid hp
      clear hp
      by_cases he : e = 0
      · subst he
        obtain ⟨hm1, hm2, hm3⟩ := nextF_ok HP.out
        rw [List.length_drop, HS.out.len] at hm3
        have hm7 : 7 ≤ m := by omega
        have hkm : k + m ≤ n := by omega
        have HXL := Lib.hid (show xs.length ≤ n by rw [HSL.out.1]; exact Nat.le_trans HA.out.few hkn)
        clear hm1 hm2 hm3
        go_wp2_with fail
        refine HC.out.mono ?_
        rintro r w1 ⟨a1, n1, c1, rfl, hn1, hr1, hnew, hg⟩
        simp only at hn1 hr1
        have hge : ∀ ad, a1 = some ad → wr.heap.size ≤ ad.block := hnew
        have HN1 := Lib.hid hn1; have HR1 := Lib.hid hr1; have HNW := Lib.hid hge; have HG1 := Lib.hid (grown_trans HG.out hg)
        have HO1 := Lib.hid (HO.out.grown hg); have HSL1 := Lib.hid (HSL.out.kept (Kept.of_grown hg)); have HLT := Lib.hid HO.out.lt
        clear hn1 hr1 hnew hge hg HC
        go_wp2_with (at_builtin; refine wpList_append_val (o := ⟨some 29, _, _, _, _, _⟩) rfl _ _ 35 22 rfl Tryd.underlying35 (.slice none 0 0) 24 info_bytes rfl w.heap.size (.slice oa on oc) xs rfl (HO1.out.alloc _) w1.heap.size 1 (.slice a1 n1 c1) (0, 0) rfl (heap_new_at _ _ _ rfl) rfl (by have := HXL.out; omega) (by have := HXL.out; omega) (by have := HG1.out.size; simp; omega) ?_)
        intro g2 n2 c2 w2 hn2 ho2 hg2 hl2
        have hrx : RX w1 (fun k => (Value.slice oa on oc).ownBlock = some k) a1 p := RX.of_rb HR1.out (fun ad h _ hx => by
          have h1 := (HLT.out ad.block hx).2
          have h2 := HNW.out ad h
          omega)
        have HB2 := Lib.hid (BytesRow.snoc HSL1.out ho2 hg2 (hl2.imp id (fun h => by simpa using h)) HN1.out hrx)
        have HG2 := Lib.hid (grown_row (grown_trans HG1.out (World.grownBy_alloc w1 _ none)) (fun g h => (HLT.out g h).1) hg2)
        clear hrx ho2 hg2 hl2 hn2
        go_wp2_with fail
        obtain ⟨xs2, ho, hsl⟩ := HB2.out
        exact ⟨⟨rfl, k + m, xs2, _, by go_num, ho, hsl, HA.out.step HP.out, HG2.out⟩, by simp only [intOf]; omega⟩
      · have he' : (e != 0) = true := by simp [he]
        go_wp2_with fail
        refine HC.out.mono ?_
        rintro r w1 ⟨a1, n1, c1, rfl, hn1, hr1, hnew, hg⟩
        have HG1 := Lib.hid (grown_trans HG.out hg)
        have HB1 := Lib.hid (BytesRow.grown ⟨xs, HO.out, HSL.out⟩ hg)
        have HST := Lib.hid (HA.out.stop (by rw [HS.out.len]; exact hlt) HP.out he)
        have HBL := Lib.hid (show bs.length = on by rw [← HSL.out.1]; exact HON.out)
        clear hn1 hr1 hnew hg HC
        go_wp2_with fail
        rw [Exit.noGoto_ret]
        go_ret3
        rw [HST.out]
        exact ⟨oa, on, oc, rfl, HBL.out, HB1.out, HG1.out⟩
    · have hk' : ¬ k < l.length := by rw [HS.out.len]; exact hlt
      have HST := Lib.hid (HA.out.end hk')
      have HBL := Lib.hid (show bs.length = on by rw [← HSL.out.1]; exact HON.out)
      clear hk'
      go_wp2_with fail
      rw [Exit.noGoto_ret]
      go_ret3
      rw [HST.out]
      exact ⟨oa, on, oc, rfl, HBL.out, ⟨xs, HO.out, HSL.out⟩, HG.out⟩

set_option maxRecDepth 100000 in
set_option maxHeartbeats 3200000 in
theorem ref_scan (a : Option Addr) (n cap : Nat) (l : List UInt8) (w : World) (hs : RS w (fun k => w.heap.size ≤ k) a n cap l) (hm : n ≤ 100000) :
    Calls Tryd.prog 14 #[.slice a n cap] w (ScanPost w (scanF l)) := by
  have HS := Lib.hid hs
  have hcap := hs.le
  clear hs
  go_enter Tryd.func14, Tryd.ntmps14
  go_wp2_with fail
  go_loopw [5, 6] (fun vo va wr => ScanRel w l vo va wr) (fun _ va _ => n - (intOf va).toNat)
  case atStart => exact ⟨0, [], [], rfl, OwnV.nil _ _ _, Slots.nil _ _, ScanAt.start l, World.grownBy.refl _ _⟩
  case round =>
    obtain ⟨k, xs, bs, rfl, hO, hSl, hA, hg⟩ := hrel
    obtain ⟨oa, on, oc, rfl, hon⟩ := hO.len
    have HO := Lib.hid hO; have HSL := Lib.hid hSl; have HA := Lib.hid hA; have HG := Lib.hid hg; have HON := Lib.hid hon
    have hkn : k ≤ n := by rw [← HS.out.len]; exact hA.le
    clear hO hSl hA hg hon
    by_cases hlt : k < n
    · have i0 : (0 : Int) ≤ (k : Int) := by omega
      have i1 : (k : Int) < (n : Int) := by omega
      have i2 : (k : Int) < (cap : Int) := by omega
      have i3 : (k : Int) ≤ (n : Int) := by omega
      have i4 : (n : Int) ≤ (cap : Int) := by omega
      have HD := Lib.hid (show RS wr (fun k => w.heap.size ≤ k) (Option.map (fun x => x.add k) a) (n - k) (cap - k) (l.drop k) from ⟨by rw [List.length_drop, HS.out.len], by omega, by have := HS.out.max; omega, (HS.out.rx.drop k).kept (Kept.of_grown HG.out)⟩)
      have HC := Lib.hid (ref_next _ _ _ _ wr HD.out (by omega))
      obtain ⟨⟨p, m, e⟩, hp⟩ : ∃ t, nextF (l.drop k) = t := ⟨_, rfl⟩
      rw [hp] at HC
      have HP := Lib.hid hp
      clear hp
      by_cases he : e = 0
      · subst he
        obtain ⟨hm1, hm2, hm3⟩ := nextF_ok HP.out
        rw [List.length_drop, HS.out.len] at hm3
        have hm7 : 7 ≤ m := by omega
        have hkm : k + m ≤ n := by omega
        have HXL := Lib.hid (show xs.length ≤ n by rw [HSL.out.1]; exact Nat.le_trans HA.out.few hkn)
        clear hm1 hm2 hm3
        go_wp2_with fail
        refine HC.out.mono ?_
        rintro r w1 ⟨a1, n1, c1, rfl, hr1, hg⟩
        have HR1 := Lib.hid hr1; have HG1 := Lib.hid (grown_trans HG.out hg)
        simp only at HR1
        have HO1 := Lib.hid (HO.out.grown hg); have HSL1 := Lib.hid (HSL.out.kept (Kept.of_grown hg)); have HLT := Lib.hid HO.out.lt
        clear hr1 hg HC
        go_wp2_with (at_builtin; refine wpList_append_val (o := ⟨some 30, _, _, _, _, _⟩) rfl _ _ 35 22 rfl Tryd.underlying35 (.slice none 0 0) 24 info_bytes rfl w.heap.size (.slice oa on oc) xs rfl (HO1.out.alloc _) w1.heap.size 1 (.slice a1 n1 c1) (0, 0) rfl (heap_new_at _ _ _ rfl) rfl (by have := HXL.out; omega) (by have := HXL.out; omega) (by have := HG1.out.size; simp; omega) ?_)
        intro g2 n2 c2 w2 hn2 ho2 hg2 hl2
        have hrx : RX w1 (fun k => (Value.slice oa on oc).ownBlock = some k) a1 p := fun i hi => by
          obtain ⟨b, o, e, hx, hc⟩ := HR1.out.rx i hi
          exact ⟨b, o, e, fun h => hx (HLT.out b h).1, hc⟩
        have HB2 := Lib.hid (BytesRow.snoc HSL1.out ho2 hg2 (hl2.imp id (fun h => by simpa using h)) HR1.out.len hrx)
        have HG2 := Lib.hid (grown_row (grown_trans HG1.out (World.grownBy_alloc w1 _ none)) (fun g h => (HLT.out g h).1) hg2)
        clear hrx ho2 hg2 hl2 hn2
        go_wp2_with fail
        obtain ⟨xs2, ho, hsl⟩ := HB2.out
        exact ⟨⟨k + m, xs2, _, by go_num, ho, hsl, HA.out.step HP.out, HG2.out⟩, by simp only [intOf]; omega⟩
      · have he' : (e != 0) = true := by simp [he]
        go_wp2_with fail
        refine HC.out.mono ?_
        rintro r w1 ⟨a1, n1, c1, rfl, hr1, hg⟩
        have HG1 := Lib.hid (grown_trans HG.out hg)
        have HB1 := Lib.hid (BytesRow.grown ⟨xs, HO.out, HSL.out⟩ hg)
        have HST := Lib.hid (HA.out.stop (by rw [HS.out.len]; exact hlt) HP.out he)
        have HBL := Lib.hid (show bs.length = on by rw [← HSL.out.1]; exact HON.out)
        clear hr1 hg HC
        go_wp2_with fail
        go_ret3
        rw [HST.out]
        exact ⟨oa, on, oc, rfl, HBL.out, HB1.out, HG1.out⟩
    · have hk' : ¬ k < l.length := by rw [HS.out.len]; exact hlt
      have HST := Lib.hid (HA.out.end hk')
      have HBL := Lib.hid (show bs.length = on by rw [← HSL.out.1]; exact HON.out)
      clear hk'
      go_wp2_with fail
      go_ret3
      rw [HST.out]
      exact ⟨oa, on, oc, rfl, HBL.out, ⟨xs, HO.out, HSL.out⟩, HG.out⟩

theorem BytesRow.rvb {w : World} {B : Nat} {a : Option Addr} {n c : Nat} {bs : List (List UInt8)} (h : BytesRow w B (.slice a n c) bs) : RVB w (fun _ => False) a bs := by
  obtain ⟨xs, h1, h2⟩ := h
  exact RVB.of_own h1 (h2.weaken (fun _ h => h.elim)) (fun _ _ h => h)
theorem RVB.take {w : World} {X : Nat → Prop} {a : Option Addr} {bs : List (List UInt8)} (h : RVB w X a bs) (k : Nat) : RVB w X a (bs.take k) := by
  intro i hi
  rw [List.length_take] at hi
  obtain ⟨b, o, e, hx, a', n, c, hc, hn, hr⟩ := h i (by omega)
  exact ⟨b, o, e, hx, a', n, c, hc, by rw [List.getElem_take]; exact hn, by rw [List.getElem_take]; exact hr⟩

set_option maxHeartbeats 1600000 in
theorem frame_same (a : Option Addr) (n c : Nat) (a' : Option Addr) (c' : Nat) (bs : List (List UInt8)) (w : World) (hn : bs.length = n) (hm : n ≤ 1000000) (h1 : RVB w (fun _ => False) a bs) (h2 : RVB w (fun _ => False) a' bs) :
    Calls Tryd.prog 15 #[.slice a n c, .slice a' n c'] w fun r w' => r = .returned (.bool true) ∧ w.grownBy w' none := by
  have HN := Lib.hid hn; have H1 := Lib.hid h1; have H2 := Lib.hid h2
  clear hn h1 h2
  go_enter Tryd.func15, Tryd.ntmps15
  go_wp2_with fail
  go_loopw [5] (fun i wr => ∃ k : Nat, k ≤ n ∧ i = .int .i64 k ∧ w.grownBy wr none) (fun i _ => n - (intOf i).toNat)
  case atStart => exact ⟨0, Nat.zero_le _, rfl, World.grownBy.refl _ _⟩
  case round =>
    obtain ⟨k, hk, rfl, hg⟩ := hrel
    have HG := Lib.hid hg
    clear hg
    by_cases hlt : k < n
    · obtain ⟨b1, o1, ha, _, a1, n1, c1, hc1, hn1, hr1⟩ := H1.out k (by rw [HN.out]; exact hlt)
      subst ha
      obtain ⟨b2, o2, ha, _, a2, n2, c2, hc2, hn2, hr2⟩ := H2.out k (by rw [HN.out]; exact hlt)
      subst ha
      have d1 := grown_cell HG.out hc1
      have d2 := grown_cell HG.out hc2
      have q1 := hr1.rb.old (grown_below HG.out)
      have s1 := fun (m : Nat) => string_bytes a1 n1 c1 _ (wr.drewN m) (show RB (wr.drewN m) a1 _ from q1) hn1
      have q2 := hr2.rb.old (grown_below HG.out)
      have s2 := fun (m : Nat) => string_bytes a2 n2 c2 _ (wr.drewN m) (show RB (wr.drewN m) a2 _ from q2) hn2
      clear hc1 hc2 hn1 hn2 hr1 hr2 q1 q2
      have i0 : (0 : Int) ≤ (k : Int) := by omega
      have i1 : (k : Int) < (n : Int) := by omega
      go_wp2_with fail
      go_quiet (fail)
      clear s1 s2
      go_wp2_with fail
      exact ⟨⟨k + 1, by omega, by go_num, grown_trans HG.out (grown_drewN _ _)⟩, by simp only [intOf]; omega⟩
    · obtain rfl : k = n := by omega
      go_wp2_with fail
      go_ret
      exact ⟨rfl, HG.out⟩

end Go.Proofs.YthpoccjlhcpoiaaDoor
