/-
  Whole segments go from a tape's beginning.
-/
import Derived.Test.YtkemocbifancfaaTAppend
namespace Go.Proofs.Ytkemocbifancfaa
open Go.RowKit
set_option maxRecDepth 100000

theorem segOf_drop (s : Nat) (l : List UInt8) (i : Nat) : segOf s (l.drop s) i = segOf s l (i + 1) := by
  unfold segOf
  rw [List.drop_drop, Nat.add_mul, Nat.one_mul, Nat.add_comm]
theorem nSeg_drop {s n : Nat} (hs : 1 ≤ s) (h : s ≤ n) : nSeg s (n - s) + 1 = nSeg s n := by
  unfold nSeg
  rw [show n + s - 1 = (n - s + s - 1) + s by omega, Nat.add_div_right _ (by omega)]
/-- the first segment goes -/
theorem TapeIs.shift {wr wu wb : World} {g M B s f : Nat} {l : List UInt8} {v : Value} {vt : List Value} (h : TapeIs wr g M B s f l (v :: vt)) (hl : s ≤ l.length) (hu : wr.grownBy wu none) (hmb : MapI wb M ((ents f (v :: vt)).eraseIdx 0)) (hgb : wu.grownBy wb (some M)) :
    Box wb g 100 (tapeC M s f (f * s + l.length)) ∧ TapeIs (wb.setCell ⟨g, 2, none⟩ (.int .i64 ((f + 1 : Nat) : Int))) g M B s (f + 1) (l.drop s) vt := by
  obtain ⟨hg1, hM1, hgM⟩ := h.lo
  have hs1 : 1 ≤ s := by have := h.seg.1; omega
  have hbb : Box wb g 100 (tapeC M s f (f * s + l.length)) := (h.box.grown hu).kept hgb (by simpa using fun e => hgM e.symm)
  refine ⟨hbb, ?_, ?_, ?_, ?_, ?_, h.lo, h.seg⟩
  · have := hbb.set 2 (.int .i64 ((f + 1 : Nat) : Int))
    rw [List.length_drop, show (f + 1) * s + (l.length - s) = f * s + l.length by rw [Nat.add_mul, Nat.one_mul]; omega]
    exact this
  · rw [ents_first] at hmb
    exact hmb.kept (grown_setCell wb g 2 _) (by simpa using hgM)
  · have h1 := h.len
    rw [List.length_cons] at h1
    have h2 := nSeg_drop hs1 hl
    rw [List.length_drop]
    omega
  · intro i hi
    have ho := h.own (i + 1) (by simpa using hi)
    rw [List.getElem_cons_succ] at ho
    rw [segOf_drop]
    refine ((ho.grown hu).kept hgb (.inr fun e => ?_)).kept (grown_setCell wb g 2 _) (.inr fun e => ?_)
    · have := (ho.lt _ e).1; omega
    · have := (ho.lt _ e).1; omega
  · intro i j hi hj hne
    exact h.apart (i + 1) (j + 1) (by simpa using hi) (by simpa using hj) (by omega)
theorem min_i64i (x y m : Int) (h : m = min x y) (u : World) : (Builtin.min_ #[2, 2] 2 #[.int .i64 x, .int .i64 y]).run Try.prog u = .ok (.int .i64 m) u := by
  rw [h]
  simp only [Builtin.min_, List.foldlM_cons, List.foldlM_nil, Builtin.min2, Sem.run_bind, Sem.run_pure, Result.andThen_ok]
  congr 2
  split <;> omega
/-- how many segments go -/
def dropN (s f n : Nat) (keep : Int) : Nat := ((min keep ((f * s + n : Nat) : Int)).tdiv (s : Int)).toNat - f
def TG (g M : Nat) (k : Nat) : Prop := k = g ∨ k = M
def DropRel (w : World) (g M B s f : Nat) (l : List UInt8) (vs : List Value) (D : Nat) (wr : World) : Prop :=
  ∃ d : Nat, d ≤ D ∧ TapeIs wr g M B s (f + d) (l.drop (d * s)) (vs.drop d) ∧ Kept (TG g M) w wr
def DropPost (w : World) (g M B s f : Nat) (l : List UInt8) (vs : List Value) (D : Nat) (r : Ending) (w' : World) : Prop :=
  r = .returned (.tuple #[]) ∧ TapeIs w' g M B s (f + D) (l.drop (D * s)) (vs.drop D) ∧ Kept (TG g M) w w'
theorem tdiv_low (k : Int) (s : Nat) (h : -9223372036854775808 ≤ k) : -9223372036854775808 ≤ k.tdiv (s : Int) := by
  by_cases h0 : 0 ≤ k
  · obtain ⟨q, rfl⟩ : ∃ q : Nat, k = q := ⟨k.toNat, by omega⟩
    show (-9223372036854775808 : Int) ≤ ((q / s : Nat) : Int)
    generalize q / s = x
    omega
  · obtain ⟨q, rfl⟩ : ∃ q : Nat, k = -(q : Int) := ⟨(-k).toNat, by omega⟩
    rw [Int.neg_tdiv]
    have h2 : (q : Int).tdiv (s : Int) = ((q / s : Nat) : Int) := rfl
    have h3 := Nat.div_le_self q s
    rw [h2]
    generalize q / s = x at *
    omega
theorem drop_le (s f n : Nat) (keep : Int) (hs : 1 ≤ s) : dropN s f n keep * s ≤ n ∧ (min keep ((f * s + n : Nat) : Int)).tdiv (s : Int) ≤ ((f + dropN s f n keep : Nat) : Int) ∧
    ∀ d, d < dropN s f n keep → ((f + d : Nat) : Int) < (min keep ((f * s + n : Nat) : Int)).tdiv (s : Int) := by
  have h1 : (min keep ((f * s + n : Nat) : Int)).tdiv (s : Int) ≤ ((f * s + n) / s : Nat) := by
    by_cases h0 : 0 ≤ min keep ((f * s + n : Nat) : Int)
    · obtain ⟨q, hq⟩ : ∃ q : Nat, min keep ((f * s + n : Nat) : Int) = q := ⟨(min keep ((f * s + n : Nat) : Int)).toNat, by omega⟩
      rw [hq]
      have : q ≤ f * s + n := by omega
      have h2 := Nat.div_le_div_right (c := s) this
      show ((q / s : Nat) : Int) ≤ _
      omega
    · obtain ⟨q, hq⟩ : ∃ q : Nat, min keep ((f * s + n : Nat) : Int) = -(q : Int) := ⟨(-(min keep ((f * s + n : Nat) : Int))).toNat, by omega⟩
      rw [hq, Int.neg_tdiv]
      have h2 : (q : Int).tdiv (s : Int) = ((q / s : Nat) : Int) := rfl
      rw [h2]
      generalize q / s = x
      generalize (f * s + n) / s = y
      omega
  rw [seg_next f s n hs] at h1
  unfold dropN
  generalize (min keep ((f * s + n : Nat) : Int)).tdiv (s : Int) = z at *
  have h3 := Nat.div_mul_le_self n s
  refine ⟨?_, by omega, fun d hd => by omega⟩
  have : z.toNat - f ≤ n / s := by
    generalize n / s = t at *
    omega
  exact Nat.le_trans (Nat.mul_le_mul_right s this) h3
set_option maxHeartbeats 12800000 in
theorem tape_drop (g M B s f : Nat) (l : List UInt8) (vs : List Value) (keep : Int) (w : World) (h : TapeIs w g M B s f l vs) (hbig : f * s + l.length ≤ 1099511627776) (hkb : -9223372036854775808 ≤ keep) :
    Calls Try.prog 59 #[.pointer (some ⟨g, 0, none⟩), .int .i64 keep] w (DropPost w g M B s f l vs (dropN s f l.length keep)) := by
  have HD := Lib.hid (drop_le s f l.length keep (by have := h.seg.1; omega))
  have HLOW := Lib.hid (tdiv_low (min keep ((f * s + l.length : Nat) : Int)) s (by omega))
  have m1 := min_i64i keep ((f * s + l.length : Nat) : Int) _ rfl
  obtain ⟨D, hD⟩ : ∃ D, dropN s f l.length keep = D := ⟨_, rfl⟩
  rw [hD] at HD ⊢
  generalize min keep ((f * s + l.length : Nat) : Int) = k1 at *
  have c3 := h.box.cell 3 rfl
  have c0 := h.box.cell 0 rfl
  have HH := Lib.hid h
  have HFD := Lib.hid (show (f + D) * s ≤ 1099511627776 by have h4 := HD.out.1; rw [Nat.add_mul]; omega)
  have hsg := h.seg
  generalize f * s + l.length = e at *
  have hmn := map_nil
  clear h hbig hD
  go_enter Try.func59, Try.ntmps59
  go_wp2_with fail
  go_loopw [] (fun wr => DropRel w g M B s f l vs D wr) (fun wr => match wr.cell? ⟨g, 2, none⟩ with | some (.int _ z) => f + D - z.toNat | _ => 0)
  case atStart => exact ⟨0, Nat.zero_le _, by rw [Nat.zero_mul, List.drop_zero, List.drop_zero]; exact HH.out, Kept.refl _ _⟩
  case round =>
    obtain ⟨d, hd, ht, hk⟩ := hrel
    have HT := Lib.hid ht; have HK := Lib.hid hk
    have b1 := ht.box.cell 1 rfl
    have b2 := ht.box.cell 2 rfl
    have q2 : ((s : Int) == 0) = false := by rw [beq_eq_false_iff_ne]; omega
    have q3 : ¬ s = 0 := by omega
    obtain ⟨z, hz⟩ : ∃ z, k1.tdiv (s : Int) = z := ⟨_, rfl⟩
    obtain ⟨h1, h2, h3⟩ := HD.out
    have hlow := HLOW.out
    rw [hz] at h2 h3 hlow
    have hDl : D * s ≤ l.length := h1
    have hfD := HFD.out
    have hfb : f + D ≤ 1099511627776 := Nat.le_trans (Nat.le_mul_of_pos_right _ (by omega)) hfD
    have q7 : IntKind.i64.wrap z = z := by rw [IntKind.wrap_i64]; omega
    obtain ⟨F, hF⟩ : ∃ F, f + d = F := ⟨_, rfl⟩
    rw [hF] at ht HT b2
    have HF := Lib.hid (fun _ : True => hF)
    have HZB := Lib.hid (fun _ : True => And.intro h2 h3)
    have hFb : F ≤ 1099511627776 := by omega
    by_cases hlt : d < D
    · have j1 : (F : Int) < z := by have := h3 d hlt; rw [hF] at this; exact this
      have hds : (d + 1) * s ≤ l.length := Nat.le_trans (Nat.mul_le_mul_right s (by omega)) hDl
      have hlen : s ≤ (l.drop (d * s)).length := by rw [List.length_drop]; rw [Nat.add_mul, Nat.one_mul] at hds; omega
      have hvl : d < vs.length := by
        have e1 := ht.len
        have e2 := nSeg_drop (s := s) (n := (l.drop (d * s)).length) (by omega) hlen
        rw [List.length_drop] at e1
        omega
      obtain ⟨v, hv⟩ : ∃ v, vs[d] = v := ⟨_, rfl⟩
      have hdr : vs.drop d = v :: vs.drop (d + 1) := by rw [List.drop_eq_getElem_cons hvl, hv]
      rw [hdr] at ht HT
      have HLN := Lib.hid hlen
      clear h1 h2 h3 hDl hfD hds hlen hvl hv hdr hF hlow ht hk
      go_wp2_with fail
      go_quiet (fail)
      generalize hw1 : wr.drewN _ = w1
      have hg1 : wr.grownBy w1 none := by rw [← hw1]; exact grown_drewN _ _
      have ht := HT.out.grown hg1
      have HT1 := Lib.hid ht
      have HK1 := Lib.hid (HK.out.trans (Kept.of_grown hg1))
      have b0 := ht.box.cell 0 rfl
      have b2 := ht.box.cell 2 rfl
      obtain ⟨wb, hrun, hmb, hgb⟩ := ht.map.drew.drop (i := 0) (k := (F : Int)) (u := v) (by rw [ents_get]; rfl) 0
      have hsh := TapeIs.shift HT1.out HLN.out (grown_drew1 w1) hmb hgb
      have HSH := Lib.hid hsh
      have HGB := Lib.hid hgb
      clear ht hw1 hg1 hmb hgb b1 hz q7
      go_wp2_with fail
      go_region_law (fail)
      all_goals (
        have c2 : wb.cell? ⟨g, 2, none⟩ = some (.int .i64 (F : Int)) := hsh.1.cell 2 rfl
        have f2 := hsh.1.open
        clear hsh hrun b0 b2
        go_wp2_with fail
        have hF := HF.out trivial
        have e := HSH.out.2
        rw [show ((F + 1 : Nat) : Int) = (F : Int) + 1 by omega] at e
        refine ⟨⟨d + 1, by omega, ?_, ((HK1.out.rowB (grown_drew1 w1) (fun _ h => by simp at h)).rowB HGB.out (fun z h => by cases h; exact .inl (.inr rfl))).rowB (grown_setCell wb g 2 _) (fun z h => by cases h; exact .inl (.inl rfl))⟩, ?_⟩
        · rw [show f + (d + 1) = F + 1 by omega, show (d + 1) * s = d * s + s by rw [Nat.add_mul, Nat.one_mul], ← List.drop_drop]
          exact e
        · have e1 := HT.out.box.cell 2 rfl
          have e2 := e.box.cell 2 rfl
          rw [e1, e2]
          show f + D - ((F + 1 : Nat) : Int).toNat < f + D - (F : Int).toNat
          omega)
    · obtain rfl : d = D := by omega
      have j1 : ¬ (F : Int) < z := by rw [hF] at h2; omega
      clear h1 h2 h3 hDl hfD hlow ht hk
      go_wp2_with fail
      go_quiet (fail)
      generalize hw1 : wr.drewN _ = w1
      have hg1 : wr.grownBy w1 none := by rw [← hw1]; exact grown_drewN _ _
      have HT1 := Lib.hid (HT.out.grown hg1)
      have HK1 := Lib.hid (HK.out.trans (Kept.of_grown hg1))
      clear hw1 hg1
      go_wp2_with fail
      go_end0
      exact ⟨rfl, by rw [HF.out trivial]; exact HT1.out, HK1.out⟩

end Go.Proofs.Ytkemocbifancfaa
