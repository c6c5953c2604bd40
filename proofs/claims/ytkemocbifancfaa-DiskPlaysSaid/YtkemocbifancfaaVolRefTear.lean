/-
  The walks through the reference of volumes: 'Tear', 'Put'.
-/
import Derived.Test.YtkemocbifancfaaVolNew
namespace Go.Proofs.Ytkemocbifancfaa
open Go.RowKit
set_option maxRecDepth 100000

/-- what a block is behind a 'Tear' -/
def tearB (sz : Nat) (old b : List UInt8) (n : Int) : List UInt8 := (whole sz b).take (clampN n sz) ++ old.drop (clampN n sz)
def refTear (sz : Nat) (bs : List (List UInt8)) (i : Int) (b : List UInt8) (n : Int) : List (List UInt8) × Int :=
  if i < 0 ∨ (bs.length : Int) ≤ i then (bs, 1) else if sz < b.length then (bs, 7) else (bs.set i.toNat (tearB sz (bs.getD i.toNat []) b n), 0)

def RefTearPost (w : World) (X : Nat → Prop) (sz : Nat) (r : List (List UInt8) × Int) (e : Ending) (w' : World) : Prop :=
  ∃ v, e = .returned (.tuple #[v, .int .i64 r.2]) ∧ RefVol w' X r.1 sz v ∧ w.grownBy w' none

theorem two_vars (w : World) (a : Option Addr) (m c sz : Nat) :
    w.grownBy ((w.alloc (.cells #[.slice a m c, .int .i64 sz] 48)).alloc (.cells #[.slice a m c, .int .i64 sz] 48)) none :=
  grown_trans (World.grownBy_alloc w (.cells #[.slice a m c, .int .i64 sz] 48) none) (World.grownBy_alloc _ _ none)

theorem refv_tear_arg {w : World} {X : Nat → Prop} {bs : List (List UInt8)} {sz : Nat} {V : Value} (hv : RefVol w X bs sz V) (i n : Int) (b : Value) (hi : i < 0 ∨ (bs.length : Int) ≤ i) :
    Calls Try.prog 74 #[V, .int .i64 i, b, .int .i64 n] w (RefTearPost w X sz (bs, 1)) := by
  obtain ⟨a, c, rfl⟩ := hv.open
  have HV := Lib.hid hv; clear hv
  generalize bs.length = m at *
  have HH := Lib.hid (two_vars w a m c sz)
  by_cases h0 : i < 0
  · go_enter Try.func74, Try.ntmps74
    go_wp2_with fail
    refine bodyPost_ret (v := .tuple #[.agg #[.slice a m c, .int .i64 sz], .int .i64 1]) ?_ rfl ⟨_, rfl, HV.out.grown HH.out, HH.out⟩
    simp only [results]
    go_simp
  · have h1 : (m : Int) ≤ i := by omega
    go_enter Try.func74, Try.ntmps74
    go_wp2_with fail
    refine bodyPost_ret (v := .tuple #[.agg #[.slice a m c, .int .i64 sz], .int .i64 1]) ?_ rfl ⟨_, rfl, HV.out.grown HH.out, HH.out⟩
    simp only [results]
    go_simp

theorem refv_tear_long {w : World} {X : Nat → Prop} {bs : List (List UInt8)} {sz : Nat} {V : Value} (hv : RefVol w X bs sz V) (j : Nat) (n : Int) (ba : Option Addr) (len cap : Nat) (hj : j < bs.length) (hl : sz < len) :
    Calls Try.prog 74 #[V, .int .i64 j, .slice ba len cap, .int .i64 n] w (RefTearPost w X sz (bs, 7)) := by
  obtain ⟨a, c, rfl⟩ := hv.open
  have HV := Lib.hid hv; clear hv
  generalize bs.length = m at *
  have HH := Lib.hid (two_vars w a m c sz)
  go_enter Try.func74, Try.ntmps74
  go_wp2_with fail
  refine bodyPost_ret (v := .tuple #[.agg #[.slice a m c, .int .i64 sz], .int .i64 7]) ?_ rfl ⟨_, rfl, HV.out.grown HH.out, HH.out⟩
  simp only [results]
  go_simp

/-- all that is old stays, all that is new is in no reading -/
def Past (X : Nat → Prop) (B : Nat) : Nat → Prop := fun k => X k ∨ B ≤ k
theorem RX.past {w : World} {X : Nat → Prop} {a : Option Addr} {l : List UInt8} (h : RX w X a l) : RX w (Past X w.heap.size) a l := fun i hi => by
  obtain ⟨b, o, e, hx, hc⟩ := h i hi
  have := World.block_lt_of_cell? w _ hc
  exact ⟨b, o, e, fun hx' => hx'.elim hx (fun h' => by simp only at this; omega), hc⟩
theorem OwnB.rx {w : World} {X : Nat → Prop} {B : Nat} {a : Option Addr} {n c : Nat} {l : List UInt8} (h : OwnB w B (.slice a n c) l) (hX : ∀ k, B ≤ k → ¬ X k) : RX w X a l := by
  refine RX.of_rb (RB.of_own h) fun ad e _ => ?_
  rcases h.2 with ⟨hv, h0⟩ | ⟨g, cap, cur, hv, hb, _⟩
  · cases hv; cases e
  · cases hv; cases e; exact hX _ hb

/-- X and one block more -/
def And1 (X : Nat → Prop) (b : Nat) : Nat → Prop := fun k => X k ∨ k = b
theorem RVB.and1 {w : World} {X : Nat → Prop} {a : Option Addr} {bs : List (List UInt8)} (h : RVB w X a bs) (b : Nat) (hb : w.heap.size ≤ b) : RVB w (And1 X b) a bs := by
  intro i hi
  obtain ⟨b', o, e, hx, a', n, c, hc, hn, hr⟩ := h i hi
  have h1 := World.block_lt_of_cell? w _ hc
  refine ⟨b', o, e, ?_, a', n, c, hc, hn, fun j hj => ?_⟩
  · rintro (h | h)
    · exact hx h
    · simp only at h1; omega
  · obtain ⟨b2, o2, e2, hx2, hc2⟩ := hr j hj
    have h2 := World.block_lt_of_cell? w _ hc2
    refine ⟨b2, o2, e2, ?_, hc2⟩
    rintro (h | h)
    · exact hx2 h
    · simp only at h2; omega

/-- what holds ahead of each round of the second loop of 'Tear' -/
def TearRel (W : World) (X : Nat → Prop) (Bs : List (List UInt8)) (sz : Nat) (i : Value) (wr : World) : Prop :=
  ∃ (k : Nat) (vB : Value) (xs : List Value), k ≤ Bs.length ∧ i = .int .i64 k ∧ OwnV wr (W.heap.size + 1) 23 vB xs ∧ Slots wr (Past X W.heap.size) xs (Bs.take k) ∧
    Box wr W.heap.size 48 [vB, .int .i64 sz] ∧ W.grownBy wr none ∧ W.heap.size + 1 ≤ wr.heap.size

theorem tearRel_step {W wr w1 w2 : World} {X : Nat → Prop} {Bs : List (List UInt8)} {sz k : Nat} {vB : Value} {xs : List Value} (hk : k < Bs.length)
    (ho : OwnV wr (W.heap.size + 1) 23 vB xs) (hs : Slots wr (Past X W.heap.size) xs (Bs.take k)) (hb : Box wr W.heap.size 48 [vB, .int .i64 sz]) (hgr : W.grownBy wr none) (hsz : W.heap.size + 1 ≤ wr.heap.size)
    {a' : Option Addr} {n' c' : Nat} {T : List UInt8} (hT : Bs[k]? = some T) (hn : T.length = n') (hr : RX W X a' T)
    (hg1 : wr.grownBy w1 none)
    {g n c : Nat} (ho2 : OwnV w2 (W.heap.size + 1) 23 (.slice (some ⟨g, 0, none⟩) n c) (xs ++ [.slice a' n' c'])) (hg2 : w1.grownBy w2 vB.ownBlock) :
    TearRel W X Bs sz (.int .i64 ((k : Int) + 1)) (w2.setCell ⟨W.heap.size, 0, none⟩ (.slice (some ⟨g, 0, none⟩) n c)) := by
  have hne : vB.ownBlock ≠ some W.heap.size := ho.ne (by omega)
  have hW2 : W.grownBy w2 none := grown_row (grown_trans hgr hg1) (fun g e => by have := (ho.lt g e).1; omega) hg2
  have hset : w2.grownBy (w2.setCell ⟨W.heap.size, 0, none⟩ (.slice (some ⟨g, 0, none⟩) n c)) (some W.heap.size) := grown_setCell _ _ _ _
  have hW3 := grown_new hW2 (Nat.le_refl _) hset
  have hkp : Kept (Past X W.heap.size) wr (w2.setCell ⟨W.heap.size, 0, none⟩ (.slice (some ⟨g, 0, none⟩) n c)) := by
    have k1 : Kept (Past X W.heap.size) wr w1 := Kept.of_grown hg1
    have k2 : Kept (Past X W.heap.size) w1 w2 := by
      cases e : vB.ownBlock with
      | none => rw [e] at hg2; exact Kept.of_grown hg2
      | some gg => rw [e] at hg2; exact Kept.of_row hg2 (.inr (by have := (ho.lt gg e).1; omega))
    exact (k1.trans k2).trans (Kept.of_row hset (.inr (Nat.le_refl _)))
  refine ⟨k + 1, _, _, hk, by simp, ho2.setCell (by omega) _, ?_, ?_, hW3, ?_⟩
  · rw [take_snoc hT]
    exact Slots.snoc (hs.kept hkp) hn (hr.past.kept (Kept.of_grown hW3))
  · exact (((hb.grown hg1).kept hg2 hne)).set 0 _
  · have h1 := hg1.size
    have h2 := hg2.size
    have h3 := hset.size
    omega

theorem tearB_length {sz : Nat} {old b : List UInt8} {n : Int} (ho : old.length = sz) (hb : b.length ≤ sz) : (tearB sz old b n).length = sz := by
  unfold tearB whole clampN
  simp
  omega

theorem tearB_at {sz : Nat} {old b : List UInt8} {n : Int} (ho : old.length = sz) (hb : b.length ≤ sz) (k : Nat) (hk : k < sz) :
    (tearB sz old b n)[k]? = some (if (k : Int) < n then (if k < b.length then b.getD k 0 else 0) else old.getD k 0) := by
  unfold tearB
  have hw : (whole sz b).length = sz := by unfold whole; simp; omega
  by_cases hn : (k : Int) < n
  · have hk' : k < clampN n sz := by unfold clampN; omega
    rw [if_pos hn, List.getElem?_append_left (by rw [List.length_take, hw]; unfold clampN at *; omega), List.getElem?_take, if_pos hk']
    unfold whole
    by_cases hb' : k < b.length
    · rw [if_pos hb', List.getElem?_append_left hb', List.getD_eq_getElem?_getD, List.getElem?_eq_getElem hb']; rfl
    · rw [if_neg hb', List.getElem?_append_right (by omega), List.getElem?_replicate, if_pos (by omega)]
  · have hk' : ¬ k < clampN n sz := by unfold clampN; omega
    have hlt : (List.take (clampN n sz) (whole sz b)).length = clampN n sz := by rw [List.length_take, hw]; unfold clampN; omega
    rw [if_neg hn, List.getElem?_append_right (by omega), hlt, List.getElem?_drop, show clampN n sz + (k - clampN n sz) = k by omega, List.getD_eq_getElem?_getD, List.getElem?_eq_getElem (by omega)]; rfl

set_option maxHeartbeats 8000000 in
theorem refv_tear_in {w : World} {X : Nat → Prop} {bs : List (List UInt8)} {sz : Nat} {V : Value} (hv : RefVol w X bs sz V) (hX : ∀ k, w.heap.size ≤ k → ¬ X k) (j : Nat) (n : Int) (ba : Option Addr) (len cap : Nat) (b : List UInt8) (hj : j < bs.length) (hl : len ≤ sz)
    (hb : b.length = len) (hr : RB w ba b) (hm : bs.length ≤ 1024) (hs : sz ≤ 4096) :
    Calls Try.prog 74 #[V, .int .i64 j, .slice ba len cap, .int .i64 n] w (RefTearPost w X sz (bs.set j (tearB sz bs[j] b n), 0)) := by
  obtain ⟨a, m, c, rfl, hm', hrv, hsz⟩ := hv
  obtain ⟨rb, ro, rfl, _, a', n', c', hc, hln, hrb⟩ := hrv j hj
  have ho : bs[j].length = sz := hsz _ (List.getElem_mem _)
  obtain rfl : n' = sz := by omega
  obtain ⟨old, hold⟩ : ∃ old, bs[j] = old := ⟨_, rfl⟩
  rw [hold] at ho hrb ⊢
  have i1 : (j : Int) < (m : Int) := by omega
  have i0 : ¬ (j : Int) < 0 := by omega
  have HM := Lib.hid hm'; have HRV := Lib.hid hrv; have HSZ := Lib.hid hsz; have HC := Lib.hid hc; have HRB := Lib.hid hrb; have HO := Lib.hid ho; have HJ := Lib.hid hj
  have HB := Lib.hid hb; have HR := Lib.hid hr; have HX := Lib.hid hX
  clear hm' hrv hsz hc hrb ho hj hold hln hb hr hX
  go_enter Try.func74, Try.ntmps74
  go_wp2_with fail
  generalize hT : tearB n' old b n = T at *
  have hTl : T.length = n' := by rw [← hT]; exact tearB_length HO.out (by rw [HB.out]; exact hl)
  have hTa := fun k hk => tearB_at (n := n) HO.out (by rw [HB.out]; exact hl) k hk
  rw [hT, HB.out] at hTa
  have HT := Lib.hid hTl; have HA := Lib.hid hTa
  clear hT hTl hTa
  have hvar := Lib.hid (vol_var w (some ⟨rb, ro, none⟩) m c n')
  have hg0 : w.grownBy ((w.alloc (.cells #[.slice (some ⟨rb, ro, none⟩) m c, .int .i64 n'] 48)).alloc (.cells #[.slice none 0 0, .int .i64 0] 48)) none := grown_trans hvar.out.2 (World.grownBy_alloc _ _ none)
  have hbx := hvar.out.1.alloc (.cells #[.slice none 0 0, .int .i64 0] 48)
  have hbr := (Box.new (w.alloc (.cells #[.slice (some ⟨rb, ro, none⟩) m c, .int .i64 n'] 48)) 48 [.slice none 0 0, .int .i64 0] (w.heap.size + 1) (by simp))
  have hsz0 : w.heap.size + 2 = ((w.alloc (.cells #[.slice (some ⟨rb, ro, none⟩) m c, .int .i64 n'] 48)).alloc (.cells #[.slice none 0 0, .int .i64 0] 48)).heap.size := by simp
  generalize (w.alloc (.cells #[.slice (some ⟨rb, ro, none⟩) m c, .int .i64 n'] 48)).alloc (.cells #[.slice none 0 0, .int .i64 0] 48) = w0 at *
  have HG0 := Lib.hid hg0; have BX := Lib.hid hbx; have BR := Lib.hid hbr
  clear hg0 hbx hbr hvar
  go_loopw [10, 11] (fun v i wr => ∃ k : Nat, k ≤ n' ∧ i = .int .i64 k ∧ OwnB wr w0.heap.size v (T.take k) ∧ w0.grownBy wr none) (fun _ i _ => n' - (intOf i).toNat)
  case atStart => exact ⟨0, Nat.zero_le _, rfl, OwnB.nil _ _, World.grownBy.refl _ _⟩
  case round =>
    obtain ⟨k, hk, rfl, hown, hgr⟩ := hrel
    have HOW := Lib.hid hown; have HG := Lib.hid hgr
    have c0 := (BX.out.grown hgr).cell 0 rfl
    have c1 := (BX.out.grown hgr).cell 1 rfl
    clear hown hgr
    by_cases hlt : k < n'
    · have hTk := HA.out k hlt
      have hgw := grown_trans HG0.out HG.out
      have cs := grown_cell hgw HC.out
      obtain ⟨b1, o1, rfl, c2⟩ := (HRB.out.rb.oldg hgw).get k (by rw [HO.out]; exact hlt)
      generalize hy : old.getD k 0 = y at *
      clear hy
      have HGW := Lib.hid hgw; clear hgw
      have j0 : (0 : Int) ≤ (k : Int) := by omega
      have j1 : (k : Int) < (n' : Int) := by omega
      have c2' : wr.cell? ⟨b1, o1 + k, none⟩ = some (.int .u8 y.toNat) := c2
      clear c2
      by_cases hn : (k : Int) < n
      · by_cases hkl : k < len
        · obtain ⟨b2, o2, rfl, c3⟩ := (HR.out.oldg HGW.out).get k (by rw [HB.out]; exact hkl)
          generalize hz : b.getD k 0 = z at *
          clear hz
          have c3' : wr.cell? ⟨b2, o2 + k, none⟩ = some (.int .u8 z.toNat) := c3
          clear c3
          have hx : T[k]? = some z := by rw [hTk, if_pos hn, if_pos hkl]
          have HT1 := Lib.hid (take_snoc hx)
          clear hTk hx
          have j2 : (k : Int) < (len : Int) := by omega
          have hsz1 := HG.out.size
          go_wp2_with (at_builtin; refine wpList_append_bytes (o := ⟨some 64, _, _, _, _, _⟩) rfl _ _ rfl w0.heap.size _ (T.take k) rfl (HOW.out.alloc _) (some ⟨wr.heap.size, 0, none⟩) 1 1 [z] rfl (RB.one _ _ rfl z _ _) rfl (fun h => by cases h) (by simp; omega) (by simp; omega) ?_)
          intro v' w1 ho1 hg1
          rw [← HT1.out] at ho1
          have HO1 := Lib.hid ho1
          have HG1 := Lib.hid (grown_row (grown_trans HG.out (World.grownBy_alloc _ _ none)) (fun g e => (HOW.out.lt g e).1) hg1)
          clear ho1 hg1
          go_wp2_with fail
          go_roundw
          case rel => exact ⟨k + 1, by omega, by go_num, HO1.out, HG1.out⟩
          case measure => simp only [intOf]; omega
        · have hx : T[k]? = some 0 := by rw [hTk, if_pos hn, if_neg hkl]
          have HT1 := Lib.hid (take_snoc hx)
          clear hTk hx
          have hsz1 := HG.out.size
          go_wp2_with (at_builtin; refine wpList_append_bytes (o := ⟨some 64, _, _, _, _, _⟩) rfl _ _ rfl w0.heap.size _ (T.take k) rfl (HOW.out.alloc _) (some ⟨wr.heap.size, 0, none⟩) 1 1 [0] rfl (RB.one _ _ rfl 0 _ _) rfl (fun h => by cases h) (by simp; omega) (by simp; omega) ?_)
          intro v' w1 ho1 hg1
          rw [← HT1.out] at ho1
          have HO1 := Lib.hid ho1
          have HG1 := Lib.hid (grown_row (grown_trans HG.out (World.grownBy_alloc _ _ none)) (fun g e => (HOW.out.lt g e).1) hg1)
          clear ho1 hg1
          go_wp2_with fail
          go_roundw
          case rel => exact ⟨k + 1, by omega, by go_num, HO1.out, HG1.out⟩
          case measure => simp only [intOf]; omega
      · have hx : T[k]? = some y := by rw [hTk, if_neg hn]
        have HT1 := Lib.hid (take_snoc hx)
        clear hTk hx
        have hsz1 := HG.out.size
        go_wp2_with (at_builtin; refine wpList_append_bytes (o := ⟨some 64, _, _, _, _, _⟩) rfl _ _ rfl w0.heap.size _ (T.take k) rfl (HOW.out.alloc _) (some ⟨wr.heap.size, 0, none⟩) 1 1 [y] rfl (RB.one _ _ rfl y _ _) rfl (fun h => by cases h) (by simp; omega) (by simp; omega) ?_)
        intro v' w1 ho1 hg1
        rw [← HT1.out] at ho1
        have HO1 := Lib.hid ho1
        have HG1 := Lib.hid (grown_row (grown_trans HG.out (World.grownBy_alloc _ _ none)) (fun g e => (HOW.out.lt g e).1) hg1)
        clear ho1 hg1
        go_wp2_with fail
        go_roundw
        case rel => exact ⟨k + 1, by omega, by go_num, HO1.out, HG1.out⟩
        case measure => simp only [intOf]; omega
    · obtain rfl : k = n' := by omega
      go_wp2_with fail
      obtain ⟨w9, hw9⟩ : ∃ w9, w9 = wr := ⟨_, rfl⟩
      subst hw9
      rw [List.take_of_length_le (by rw [HT.out]; exact Nat.le_refl _)] at HOW
      obtain ⟨ta, tn, tc, rfl, htn⟩ := HOW.out.len
      have hsz1 := HG.out.size
      have hgw := grown_trans HG0.out HG.out
      have hTX : RX w9 (And1 X (w.heap.size + 1)) ta T := HOW.out.rx (fun k hk => by rintro (h | h); exact HX.out k (by omega) h; omega)
      have hRV := (HRV.out.and1 (w.heap.size + 1) (by omega)).kept (Kept.of_grown hgw)
      have BX1 := Lib.hid (BX.out.grown HG.out)
      have BR1 := Lib.hid (BR.out.grown HG.out)
      have hout := Box.new w9 48 [.slice none 0 0, .int .i64 k] w9.heap.size rfl
      have hgo := World.grownBy_alloc w9 (.cells [.slice none 0 0, .int .i64 k].toArray 48) none
      have HTX := Lib.hid hTX; have HRV1 := Lib.hid hRV; have HGW := Lib.hid hgw; have HTN := Lib.hid htn
      have hbl := HM.out
      have HBS := Lib.hid (show (bs.set j T).length = bs.length from List.length_set)
      obtain ⟨Bs, hBs⟩ : ∃ Bs, bs.set j T = Bs := ⟨_, rfl⟩
      rw [hBs] at HBS
      have HBs := Lib.hid hBs
      clear hTX hRV hgw htn
      go_loopw [14] (fun i wr => TearRel w9 (And1 X (w.heap.size + 1)) (bs.set j T) k i wr) (fun i _ => m - (intOf i).toNat)
      case atStart =>
        exact ⟨0, .slice none 0 0, [], Nat.zero_le _, rfl, OwnV.nil _ _ _, Slots.nil _ _, hout, hgo, by simp⟩
      case round =>
        clear hout hgo
        rw [hBs] at hrel ⊢
        obtain ⟨q, vB, xs, hq, rfl, hown, hsl, hbo, hgr, hsz⟩ := hrel
        rw [HBS.out, hbl] at hq
        have HOV := Lib.hid hown; have HSL := Lib.hid hsl; have BO := Lib.hid hbo; have HGR := Lib.hid hgr
        have c0 := (BX1.out.grown hgr).cell 0 rfl
        have co := hbo.cell 0 rfl
        have fo := hbo.free 0
        clear hown hsl hbo hgr
        by_cases hlt : q < m
        · have hxl : xs.length = q := by rw [HSL.out.1, List.length_take, HBS.out, hbl]; omega
          have HXL := Lib.hid hxl
          clear hxl
          by_cases hqj : q = j
          · subst hqj
            have hat : Bs[q]? = some T := by rw [← HBs.out, List.getElem?_set_self HJ.out]
            have HAT := Lib.hid hat; clear hat
            go_wp2_with (at_builtin; refine wpList_append_val (o := ⟨some 82, _, _, _, _, _⟩) rfl _ _ 46 23 rfl Try.underlying46 (.slice none 0 0) 24 info_bytes rfl (w9.heap.size + 1) vB xs rfl (HOV.out.alloc _) wr.heap.size 1 (.slice ta tn tc) (0, 0) rfl (heap_new_at _ _ _ rfl) rfl (by rw [HXL.out]; omega) (by rw [HXL.out]; omega) (by simp; omega) ?_)
            intro g2 n2 cap2 w2 hn2 ho2 hg2 hl2
            have hb2 := (BO.out.alloc _).kept hg2 (HOV.out.ne (by omega))
            have d0 := hb2.cell 0 rfl
            have d1 := hb2.free 0
            have HS1 := Lib.hid (tearRel_step (by rw [HBS.out, hbl]; exact hlt) HOV.out HSL.out BO.out HGR.out hsz HAT.out HTN.out HTX.out (World.grownBy_alloc _ _ none) ho2 hg2)
            clear ho2 hg2 hl2 hb2
            go_wp2_with fail
            exact ⟨HS1.out, by simp only [intOf]; omega⟩
          · have hqb : q < bs.length := by rw [hbl]; exact hlt
            obtain ⟨b8, o8, e8, _, a8, n8, c8, hc8, hn8, hr8⟩ := HRV1.out q hqb
            cases e8
            have hat : Bs[q]? = some bs[q] := by rw [← HBs.out, List.getElem?_set_ne (by omega), List.getElem?_eq_getElem hqb]
            obtain ⟨y, hy⟩ : ∃ y, bs[q] = y := ⟨_, rfl⟩
            rw [hy] at hat hn8 hr8
            have cq := grown_cell HGR.out hc8
            have HAT := Lib.hid hat; have HN8 := Lib.hid hn8; have HR8 := Lib.hid hr8
            clear hat hn8 hr8 hc8 hy
            have c0a := fun o => (BO.out.alloc o).cell 0 rfl
            have q0 : (0 : Int) ≤ (q : Int) := by omega
            have q1 : (q : Int) < (m : Int) := by omega
            have q2 : ¬ (q : Int) = (j : Int) := by omega
            have hd : wr.grownBy ((wr.alloc (.cells #[.slice a8 n8 c8] 23)).drew) none := grown_drew (World.grownBy_alloc _ _ none)
            have bq := (BX1.out.grown HGR.out).alloc (.cells #[.slice a8 n8 c8] 23)
            have e0 := bq.cell 0 rfl
            have eq8 := grown_cell (World.grownBy_alloc wr (.cells #[.slice a8 n8 c8] 23) none) cq
            clear bq
            go_wp2_with fail
            go_region_law (first
              | (refine step_append_val (by rfl) _ _ 46 23 (by rfl) Try.underlying46 (.slice none 0 0) 24 info_bytes rfl (w9.heap.size + 1) vB xs (by rfl) ((HOV.out.alloc _).drew) wr.heap.size 1 (.slice a8 n8 c8) (0, 0) (by rfl) (heap_new_drew _ _ _ rfl) rfl (by rw [HXL.out]; omega) (by rw [HXL.out]; omega) (by simp; omega) ?_; intro g2 n2 cap2 w2 hn2 ho2 hg2 hl2; have hb2 := ((BO.out.alloc _).drew).kept hg2 (HOV.out.ne (by omega)); have d0 := hb2.cell 0 rfl; have d1 := hb2.free 0))
            all_goals (
              have HS1 := Lib.hid (tearRel_step (by rw [HBS.out, hbl]; exact hlt) HOV.out HSL.out BO.out HGR.out hsz HAT.out HN8.out HR8.out hd ho2 hg2)
              clear ho2 hg2 hl2 hb2 d0 d1
              go_wp2_with fail
              go_roundw)
            all_goals (first | exact HS1.out | exact ⟨HS1.out, by simp only [intOf]; omega⟩ | (simp only [intOf]; omega))
        · have hqm : q = m := by omega
          subst hqm
          obtain ⟨va, vn, vc, rfl, hvn⟩ := HOV.out.len
          have e1 := BO.out.cell 1 rfl
          have br := Lib.hid (BR1.out.grown HGR.out)
          have e2 := br.out.cell 0 rfl
          have e3 := br.out.cell 1 rfl
          have e4 := br.out.free 0
          have e5 := br.out.free 1
          have e6 := fun v => (br.out.set 0 v).cell 1 rfl
          have e7 := fun v => (br.out.set 0 v).free 1
          go_wp2_with fail
          have BF := (br.out.set 0 (.slice va vn vc)).set 1 (.int .i64 k)
          have f0 := BF.cell 0 rfl
          have f1 := BF.cell 1 rfl
          refine bodyPost_ret (v := .tuple #[.agg #[.slice va vn vc, .int .i64 k], .int .i64 0]) ?_ rfl ?_
          · simp only [results]
            go_simp
          · have hset : wr.grownBy ((wr.setCell ⟨w.heap.size + 1, 0, none⟩ (.slice va vn vc)).setCell ⟨w.heap.size + 1, 1, none⟩ (.int .i64 k)) (some (w.heap.size + 1)) := grown_same (grown_setCell _ _ _ _) (grown_setCell _ _ _ _)
            have hall := grown_trans HGW.out HGR.out
            refine ⟨_, rfl, ⟨va, vn, vc, rfl, ?_, ?_, ?_⟩, grown_new hall (by omega) hset⟩
            · have h1 := HSL.out.1
              rw [HBs.out, HBS.out, hbl, ← hvn, h1, List.length_take, HBS.out, hbl, Nat.min_self]
            · rw [HBs.out]
              have hs1 := HSL.out
              rw [List.take_of_length_le (by rw [HBS.out, hbl]; exact Nat.le_refl _)] at hs1
              refine RVB.of_own (B := w9.heap.size + 1) (xs := xs) ((HOV.out.setCell (by omega) _).setCell (by omega) _) ?_ (fun k hk => HX.out k (by omega))
              exact (hs1.kept (Kept.of_row hset (.inl (.inr rfl)))).weaken fun k hk => .inl (.inl hk)
            · intro b' hb'
              rcases List.mem_or_eq_of_mem_set hb' with h | h
              · exact HSZ.out b' h
              · rw [h]; exact HT.out

end Go.Proofs.Ytkemocbifancfaa
