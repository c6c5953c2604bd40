/-
  The document's reader: numbers with a sign, counts, lists of items.
-/
import Derived.Test.YtomnhgcjdnhijaaReqDec
import Derived.Test.YtomnhgcjdnhijaaRefR
namespace Go.Proofs.Ytomnhgcjdnhijaa
open Go.RowKit
set_option maxRecDepth 100000

theorem RR.int {w0 w : World} {g : Nat} {s : Int × List UInt8} (R : RR w0 w g s) :
    Calls Try.prog 50 #[.pointer (some ⟨g, 0, none⟩)] w fun r w' => r = .returned (.int .i64 (wrap64 ((numF s.1 s.2 8).1 : Int))) ∧ RR w0 w' g (numF s.1 s.2 8).2 ∧ w.grownBy w' (some g) := by
  have HC := Lib.hid (R.num 8)
  have hlt := numF_lt s.1 s.2 8
  rw [show numF s.1 s.2 ((8 : Nat) : Int) = numF s.1 s.2 8 from rfl] at hlt
  obtain ⟨⟨x, t⟩, hx⟩ : ∃ t, numF s.1 s.2 8 = t := ⟨_, rfl⟩
  rw [hx] at HC hlt ⊢
  obtain ⟨z, hz⟩ : ∃ z, wrap64 (x : Int) = z := ⟨_, rfl⟩
  have hw : IntKind.i64.wrap (x : Int) = z := by rw [← hz, IntKind.wrap_i64]; unfold wrap64; rfl
  simp only at hlt ⊢
  rw [hz]
  clear hx hz R hlt
  go_enter Try.func50, Try.ntmps50
  go_wp2_with fail
  refine HC.out.mono ?_
  rintro r w1 ⟨rfl, hR, hg⟩
  have HR := Lib.hid hR; have HG := Lib.hid hg
  clear hR hg
  simp only
  go_wp2_with fail
  go_ret
  exact ⟨rfl, HR.out, HG.out⟩

/-- what 'Count(3)' does -/
def cntF (e : Int) (l : List UInt8) : Nat × Int × List UInt8 :=
  if (numF e l 1).2.1 ≠ 0 then (0, (numF e l 1).2) else if 3 < (numF e l 1).1 then (0, 8, (numF e l 1).2.2) else numF e l 1
set_option maxHeartbeats 800000 in
theorem RR.count {w0 w : World} {g : Nat} {s : Int × List UInt8} (R : RR w0 w g s) :
    Calls Try.prog 68 #[.pointer (some ⟨g, 0, none⟩), .int .i64 3] w fun r w' => r = .returned (.int .i64 ((cntF s.1 s.2).1 : Int)) ∧ RR w0 w' g (cntF s.1 s.2).2 ∧ w.grownBy w' (some g) := by
  have HC := Lib.hid (R.num 1)
  have hlt := numF_lt s.1 s.2 1
  rw [show numF s.1 s.2 ((1 : Nat) : Int) = numF s.1 s.2 1 from rfl] at hlt
  unfold cntF
  obtain ⟨⟨x, e, l⟩, hx⟩ : ∃ t, numF s.1 s.2 1 = t := ⟨_, rfl⟩
  rw [hx] at HC hlt ⊢
  have hw : IntKind.i64.wrap (x : Int) = (x : Int) := by simp at hlt; simp [IntKind.wrap, IntKind.signed, IntKind.bits]; omega
  simp only at hlt ⊢
  obtain ⟨T, hT⟩ : ∃ T, (if e ≠ 0 then ((0 : Nat), e, l) else if 3 < x then (0, 8, l) else (x, e, l)) = T := ⟨_, rfl⟩
  rw [hT]
  have HT := Lib.hid hT
  clear hx R hlt hT
  go_enter Try.func68, Try.ntmps68
  go_wp2_with fail
  refine HC.out.mono ?_
  rintro r w1 ⟨rfl, hR, hg⟩
  obtain ⟨a1, n1, c1, hb, hrs⟩ := hR.at'
  have HR := Lib.hid hR; have HG := Lib.hid hg; have HB := Lib.hid hb; have HRS := Lib.hid hrs
  have YL := hb.look
  have YO := hb.open
  clear hR hg hb hrs
  by_cases he : e = 0
  · subst he
    by_cases h3 : 3 < x
    · have HTT := Lib.hid (show T = (0, 8, l) by rw [← HT.out, if_neg (by simp), if_pos h3])
      have h3' : (3 : Int) < (x : Int) := by omega
      have hlow := HR.out.low
      have hgs := grown_setCell w1 g 1 (.int .i64 8)
      have HGS := Lib.hid hgs
      clear h3 hlow hgs
      go_wp2_with fail
      go_ret
      rw [HTT.out]
      exact ⟨rfl, ⟨⟨a1, n1, c1, HB.out.set 1 _, HRS.out.grownX HGS.out HR.out.low⟩, HR.out.low, grown_new HR.out.gr HR.out.low HGS.out⟩, grown_same HG.out HGS.out⟩
    · have HTT := Lib.hid (show T = (x, 0, l) by rw [← HT.out, if_neg (by simp), if_neg h3])
      have h3' : (x : Int) ≤ 3 := by omega
      clear h3
      go_wp2_with fail
      go_ret
      rw [HTT.out]
      exact ⟨rfl, HR.out, HG.out⟩
  · have HTT := Lib.hid (show T = (0, e, l) by rw [← HT.out, if_pos he])
    have h1 : (e != 0) = true := by simpa using he
    have h2 : (e == 0) = false := by simpa using he
    clear he
    go_wp2_with fail
    go_ret
    rw [HTT.out]
    exact ⟨rfl, HR.out, HG.out⟩


/-- what 'Lines' does behind the count -/
def loopF : Nat → Int → List UInt8 → List LineP × Int × List UInt8
  | 0, e, l => ([], e, l)
  | n + 1, e, l => if e ≠ 0 then ([], e, l) else
      ((UInt8.ofNat (numF e l 1).1, wrap64 ((numF (numF e l 1).2.1 (numF e l 1).2.2 8).1 : Int)) :: (loopF n (numF (numF e l 1).2.1 (numF e l 1).2.2 8).2.1 (numF (numF e l 1).2.1 (numF e l 1).2.2 8).2.2).1,
       (loopF n (numF (numF e l 1).2.1 (numF e l 1).2.2 8).2.1 (numF (numF e l 1).2.1 (numF e l 1).2.2 8).2.2).2)
def linesF (e : Int) (l : List UInt8) : List LineP × Int × List UInt8 := loopF (cntF e l).1 (cntF e l).2.1 (cntF e l).2.2
theorem grown_newX {a b c : World} {row : Option Nat} {q : Nat} (h : a.grownBy b row) (hq : a.heap.size ≤ q) (k : b.grownBy c (some q)) : a.grownBy c row :=
  ⟨k.os.trans h.os, k.tape.trans h.tape, k.output.trans h.output, Nat.le_trans h.size k.size, fun i hi hne => (k.block i (Nat.lt_of_lt_of_le hi h.size) (by simp; omega)).trans (h.block i hi hne)⟩
theorem grown_rowX {a b c : World} {row : Option Nat} {v : Value} (h : a.grownBy b row) (hv : ∀ q, v.ownBlock = some q → a.heap.size ≤ q) (k : b.grownBy c v.ownBlock) : a.grownBy c row := by
  cases e : v.ownBlock with
  | none => rw [e] at k; exact grown_trans' h k
  | some q => rw [e] at k; exact grown_newX h (hv q e) k
def LinesRel (w0 w : World) (g N : Nat) (LL : List LineP) (eE : Int) (lE : List UInt8) (v i : Value) (wr : World) : Prop :=
  ∃ (j : Nat) (e : Int) (l : List UInt8) (acc : List LineP), j ≤ N ∧ i = .int .i64 j ∧ acc.length = j ∧ (LL, eE, lE) = (acc ++ (loopF (N - j) e l).1, (loopF (N - j) e l).2) ∧
    OwnR wr w.heap.size 73 2 v (acc.map lineCells) ∧ RR w0 wr g (e, l) ∧ w.grownBy wr (some g)
theorem cntF_le (e : Int) (l : List UInt8) : (cntF e l).1 ≤ 3 := by
  unfold cntF
  split
  · simp
  · split
    · simp
    · omega
def LinesPost (w0 w : World) (g : Nat) (t : List LineP × Int × List UInt8) (r : Ending) (w' : World) : Prop :=
  ∃ a m c, r = .returned (.slice a m c) ∧ LineList w' a t.1 ∧ t.1.length = m ∧ m ≤ maxLen ∧ (∀ ad, a = some ad → w.heap.size ≤ ad.block) ∧ RR w0 w' g t.2 ∧ w.grownBy w' (some g)
set_option maxHeartbeats 3200000 in
theorem RR.lines {w0 w : World} {g : Nat} {s : Int × List UInt8} (R : RR w0 w g s) :
    Calls Try.prog 49 #[.pointer (some ⟨g, 0, none⟩)] w (LinesPost w0 w g (linesF s.1 s.2)) := by
  have HC := Lib.hid R.count
  have h3 := cntF_le s.1 s.2
  have hgw := R.lt
  have hlo := R.gr.size
  unfold linesF
  obtain ⟨⟨N, e0, l0⟩, hx⟩ : ∃ t, cntF s.1 s.2 = t := ⟨_, rfl⟩
  rw [hx] at HC h3 ⊢
  simp only at h3 ⊢
  obtain ⟨⟨LL, eE, lE⟩, hL⟩ : ∃ t, loopF N e0 l0 = t := ⟨_, rfl⟩
  rw [hL]
  have HL := Lib.hid hL
  clear hx hL R
  go_enter Try.func49, Try.ntmps49
  go_wp2_with fail
  refine HC.out.mono ?_
  rintro r w1 ⟨rfl, hR, hg⟩
  have HR1 := Lib.hid hR; have HG1 := Lib.hid hg
  clear hR hg
  go_wp2_with fail
  go_loopw [3, 5] (fun v i wr => LinesRel w0 w g N LL eE lE v i wr) (fun _ i _ => N - (intOf i).toNat)
  case atStart =>
    exact ⟨0, e0, l0, [], Nat.zero_le _, rfl, rfl, by rw [Nat.sub_zero, HL.out]; rfl, OwnR.nil _ _ _ _, HR1.out, HG1.out⟩
  case round =>
    obtain ⟨j, e, l, acc, hj, rfl, hacc, hrd, hown, hR, hg⟩ := hrel
    obtain ⟨ra, rn, rc, hb, hrs⟩ := hR.at'
    have YL := hb.look
    have HACC := Lib.hid hacc; have HRDL := Lib.hid hrd; have HOWN := Lib.hid hown; have HR := Lib.hid hR; have HG := Lib.hid hg
    clear hacc hrd hown hR hg hb hrs HL
    by_cases hlt : j < N ∧ e = 0
    · obtain ⟨hlt, rfl⟩ := hlt
      obtain ⟨M, hM⟩ : ∃ M, N - j = M + 1 := ⟨N - j - 1, by omega⟩
      have hM' : N - (j + 1) = M := by omega
      have hrd := HRDL.out
      rw [hM] at hrd
      unfold loopF at hrd
      rw [if_neg (by simp)] at hrd
      have hxl := numF_lt 0 l 1
      obtain ⟨⟨x1, f1, m1⟩, hx⟩ : ∃ t, numF 0 l 1 = t := ⟨_, rfl⟩
      rw [show numF 0 l ((1 : Nat) : Int) = numF 0 l 1 from rfl, hx] at hxl
      rw [hx] at hrd
      simp only at hxl hrd
      obtain ⟨u1, hu1, hm1, hw1⟩ : ∃ u : UInt8, UInt8.ofNat x1 = u ∧ (x1 : Int) % 256 = (u.toNat : Int) ∧ IntKind.u8.wrap (x1 : Int) = (u.toNat : Int) := ⟨_, rfl, by simp, u8w x1 (by simpa using hxl)⟩
      rw [hu1] at hrd
      have hc := (HR.out.grown (World.grownBy_alloc wr (.cells #[.int .u8 0, .int .i64 0] 73) none)).num 1
      simp only at hc
      rw [hx] at hc
      have HNUM := Lib.hid hc
      clear hxl hx hc hu1
      obtain ⟨⟨x2, f2, m2⟩, hx⟩ : ∃ t, numF f1 m1 8 = t := ⟨_, rfl⟩
      rw [hx] at hrd
      simp only at hrd
      obtain ⟨zq, hzq⟩ : ∃ z, wrap64 (x2 : Int) = z := ⟨_, rfl⟩
      rw [hzq] at hrd
      have HINT := Lib.hid (fun (u : World) (hR : RR w0 u g (f1, m1)) => show Calls Try.prog 50 #[.pointer (some ⟨g, 0, none⟩)] u (fun r w' => r = .returned (.int .i64 zq) ∧ RR w0 w' g (f2, m2) ∧ u.grownBy w' (some g)) by
        have hc := hR.int
        simp only at hc
        rw [hx] at hc
        simp only at hc
        rw [hzq] at hc
        exact hc)
      have HNX := Lib.hid hrd
      have hgs := HG.out.size
      have hvg : u3.ownBlock = none ∨ u3.ownBlock ≠ some g := .inr fun h => by have := (HOWN.out.lt g h).1; omega
      have hvb : u3.ownBlock ≠ some wr.heap.size := fun h => by have := (HOWN.out.lt _ h).2; omega
      have HVG := Lib.hid hvg; have HVB := Lib.hid hvb
      have HOA := Lib.hid (HOWN.out.grown (World.grownBy_alloc wr (.cells #[.int .u8 0, .int .i64 0] 73) none))
      have HBI := Lib.hid (Box.new wr 73 [.int .u8 0, .int .i64 0] wr.heap.size rfl)
      have hbg : g ≠ wr.heap.size := by omega
      have hbg2 : wr.heap.size ≠ g := by omega
      have hlb : w0.heap.size ≤ wr.heap.size := by omega
      have SI := set_idx
      clear hvg hvb hx hzq hrd hM HRDL
      go_wp2_with fail
      refine HNUM.out.mono ?_
      rintro r wa ⟨rfl, hRa, hga⟩
      have hba := HBI.out.kept hga (by simpa using hbg)
      have HBA := Lib.hid hba
      have XA := hba.look
      have OA := hba.open
      have HRA := Lib.hid (hRa.set hbg2 hlb 0 (.int .u8 (u1.toNat : Int)))
      have HBA1 := Lib.hid (hba.set 0 (.int .u8 (u1.toNat : Int)))
      have HOA1 := Lib.hid ((HOA.out.kept hga HVG.out).kept (grown_setCell wa wr.heap.size 0 (.int .u8 (u1.toNat : Int))) (.inr HVB.out))
      have HGA := Lib.hid (show wr.grownBy (wa.setCell ⟨wr.heap.size, 0, none⟩ (.int .u8 (u1.toNat : Int))) (some g) from grown_newX (grown_trans (World.grownBy_alloc wr _ none) hga) (Nat.le_refl _) (grown_setCell _ _ _ _))
      clear hRa hga hba
      go_wp2_with fail
      refine (HINT.out _ HRA.out).mono ?_
      rintro r wb ⟨rfl, hRb, hgb⟩
      have hbb := HBA1.out.kept hgb (by simpa using hbg)
      have XB := hbb.look
      have OB := hbb.open
      have HRB := Lib.hid (hRb.set hbg2 hlb 1 (.int .i64 zq))
      have HOB := Lib.hid ((HOA1.out.kept hgb HVG.out).kept (grown_setCell wb wr.heap.size 1 (.int .i64 zq)) (.inr HVB.out))
      have HGB := Lib.hid (grown_newX (grown_same HGA.out hgb) (Nat.le_refl _) (grown_setCell wb wr.heap.size 1 (.int .i64 zq)))
      clear hRb hgb hbb XA OA
      have HOC := Lib.hid (HOB.out.grown (World.grownBy_alloc _ (.cells (lineCells (u1, zq)).toArray 73) none))
      have HRC := Lib.hid (HRB.out.grown (World.grownBy_alloc _ (.cells (lineCells (u1, zq)).toArray 73) none))
      have HGC := Lib.hid (grown_same HG.out (grown_trans' HGB.out (World.grownBy_alloc _ (.cells (lineCells (u1, zq)).toArray 73) none)))
      simp only [lineCells] at HOC HRC HGC
      go_wp2_with (at_builtin; refine wpList_append_elem (o := ⟨some 32, _, _, _, _, _⟩) rfl _ _ 23 73 rfl Try.underlying23 _ 2 16 info_line rfl (by decide) HOC.out rfl (heap_new_at _ _ _ (by simp [World.setCell])) rfl rfl (line_one (u1, zq)) (by rw [List.length_map, HACC.out]; omega) (by rw [List.length_map, HACC.out]; omega) HGC.out.size ?_)
      intro g' cap wc hoc hgc hkc
      have HOD := Lib.hid hoc
      have HRD := Lib.hid (HRC.out.row hgc (fun q hq => by have := (HOC.out.lt q hq).1; exact ⟨by omega, by omega⟩))
      have HGD := Lib.hid (grown_rowX HGC.out (fun q hq => (HOC.out.lt q hq).1) hgc)
      clear hoc hgc hkc
      go_wp2_with fail
      go_roundw
      case rel =>
        refine ⟨j + 1, f2, m2, acc ++ [(u1, zq)], by omega, by go_num, by rw [List.length_append, HACC.out]; rfl, by rw [hM', HNX.out]; simp, ?_, HRD.out, HGD.out⟩
        have hoc := HOD.out
        rw [List.map_append]
        exact hoc
      case measure => simp [intOf]; omega
    · have hend : (LL, eE, lE) = (acc, e, l) := by
        rw [HRDL.out]
        by_cases hj2 : j < N
        · have he : e ≠ 0 := fun h => hlt ⟨hj2, h⟩
          obtain ⟨M, hM⟩ : ∃ M, N - j = M + 1 := ⟨N - j - 1, by omega⟩
          rw [hM]
          unfold loopF
          rw [if_pos he]
          simp
        · rw [show N - j = 0 by omega]
          simp [loopF]
      simp only [Prod.mk.injEq] at hend
      obtain ⟨rfl, rfl, rfl⟩ := hend
      obtain ⟨va, vc, hv⟩ := HOWN.out.len
      subst hv
      have hol := own_lines HOWN.out
      rw [List.length_map] at hol
      have HOL := Lib.hid hol
      have hstop : ¬ ((j : Int) < (N : Int)) ∨ ((j : Int) < (N : Int) ∧ (eE == 0) = false) := by
        by_cases hj2 : j < N
        · exact .inr ⟨by omega, by simpa using fun h => hlt ⟨hj2, h⟩⟩
        · exact .inl (by omega)
      clear hol HRDL hlt
      rcases hstop with hs | ⟨hs, hs2⟩
      all_goals (
        go_wp2_with fail
        go_ret
        exact ⟨_, _, _, rfl, HOL.out.1, rfl, HOL.out.2.2.1, HOL.out.2.2.2, HR.out, HG.out⟩)

end Go.Proofs.Ytomnhgcjdnhijaa
