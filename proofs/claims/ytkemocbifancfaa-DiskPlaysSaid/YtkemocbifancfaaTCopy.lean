/-
  A copy of a tape.
-/
import Derived.Test.YtkemocbifancfaaTCopyS
import Derived.Test.YtkemocbifancfaaTCut
namespace Go.Proofs.Ytkemocbifancfaa
open Go.RowKit
set_option maxRecDepth 100000

def CpRel (w : World) (g2 M2 M B2 s f : Nat) (l : List UInt8) (vs : List Value) (r : Nat) (wr : World) : Prop := ∃ st dn, CpSt w g2 M2 M B2 s f l vs r st dn wr
def CopyPost (w : World) (s f : Nat) (l : List UInt8) (r : Ending) (w' : World) : Prop := ∃ g2 M2 B2 vs', r = .returned (.pointer (some ⟨g2, 0, none⟩)) ∧ TapeIs w' g2 M2 B2 s f l vs' ∧ w.heap.size ≤ g2 ∧ w.heap.size ≤ M2 ∧ B2 ≤ w'.heap.size ∧ RowsOf w.heap.size [] vs' ∧ w.grownBy w' none
theorem CpSt.more {w wr w' wa wb : World} {g2 M2 M B2 s f : Nat} {l : List UInt8} {vs : List Value} {r : Nat} {st : Nat → Option Value} {dn : Int → Bool} (h : CpSt w g2 M2 M B2 s f l vs r st dn wr) {i : Nat} (hi : i < vs.length)
    (hn : IterI w' M r (ents f vs) (fun z => dn z || z == ((f + i : Nat) : Int))) (hg : wr.grownBy w' (some r)) (hlt : w'.rangeLeft M r < wr.rangeLeft M r) (hd : dn ((f + i : Nat) : Int) = false) (ha : w'.grownBy wa none) (hb : wa.grownBy wb (some M2)) {v : Value} (hm : MapI wb M2 (entsO f st vs.length ++ [(((f + i : Nat) : Int), v)]))
    (ho : OwnB wa w'.heap.size v (segOf s l i)) (hne : segOf s l i ≠ []) :
    CpRel w g2 M2 M B2 s f l vs r wb ∧ wb.rangeLeft M r < wr.rangeLeft M r := by
  have hst : st i = none := by
    have := h.there i hi
    rw [hd] at this
    simpa using this
  have hs := h.step hi hn hg ha hb (hm.perm (CpSt.push hi hst)) ho hne
  exact ⟨⟨_, _, hs.1⟩, by rw [hs.2]; exact hlt⟩
set_option maxHeartbeats 3200000 in
theorem tape_copy (g M B s f : Nat) (l : List UInt8) (vs : List Value) (w : World) (h : TapeIs w g M B s f l vs) :
    Calls Try.prog 62 #[.pointer (some ⟨g, 0, none⟩)] w (CopyPost w s f l) := by
  have HH := Lib.hid h
  have c0 := h.box.cell 0 rfl
  have c1 := h.box.cell 1 rfl
  have c2 := h.box.cell 2 rfl
  have c3 := h.box.cell 3 rfl
  have hsg := h.seg
  obtain ⟨e, he⟩ : ∃ e, f * s + l.length = e := ⟨_, rfl⟩
  rw [he] at c3
  have HQ := Lib.hid (fun _ : True => he)
  have hgl := h.box.lt
  have hml := h.map.lt
  have hmm := @run_makeMap Try.prog
  clear h he
  go_enter Try.func62, Try.ntmps62
  go_wp2_with fail
  have hb1 := (Box.new w 100 [.map (some (w.heap.size + 1)), .int .i64 (s : Int), .int .i64 (f : Int), .int .i64 (e : Int)] w.heap.size rfl).alloc (.map #[] 0)
  have hm1 := MapI.made (w.alloc (.cells #[.map (some (w.heap.size + 1)), .int .i64 (s : Int), .int .i64 (f : Int), .int .i64 (e : Int)] 100))
  have hz1 : (w.alloc (.cells #[.map (some (w.heap.size + 1)), .int .i64 (s : Int), .int .i64 (f : Int), .int .i64 (e : Int)] 100)).heap.size = w.heap.size + 1 := by simp
  rw [hz1] at hm1
  have hg1 := grown_trans (World.grownBy_alloc w (.cells #[.map (some (w.heap.size + 1)), .int .i64 (s : Int), .int .i64 (f : Int), .int .i64 (e : Int)] 100) none) (World.grownBy_alloc _ (.map #[] 0) none)
  have hs1 : ((w.alloc (.cells #[.map (some (w.heap.size + 1)), .int .i64 (s : Int), .int .i64 (f : Int), .int .i64 (e : Int)] 100)).alloc (.map #[] 0)).heap.size = w.heap.size + 2 := by simp
  generalize (w.alloc (.cells #[.map (some (w.heap.size + 1)), .int .i64 (s : Int), .int .i64 (f : Int), .int .i64 (e : Int)] 100)).alloc (.map #[] 0) = w1 at *
  obtain ⟨w2, hrg, hi2, hg2, hs2⟩ := (HH.out.grown hg1).map.range
  rw [hrg]
  simp only [Result.andThen]
  rw [Oper.upon_value]
  rw [hs1] at hi2 hs2
  rw [hs1]
  have HST := Lib.hid (show CpRel w w.heap.size (w.heap.size + 1) M (w.heap.size + 3) s f l vs (w.heap.size + 2) w2 from
    ⟨fun _ => none, fun _ => false, ⟨by omega, by omega, by unfold tapeC; rw [HQ.out trivial]; exact hb1.grown hg2, hi2, by rw [entsO_none]; exact hm1.grown hg2, fun _ _ => rfl, fun _ _ _ h => (by cases h), fun _ _ _ _ _ _ _ h => (by cases h), grown_trans hg1 hg2⟩⟩)
  clear hb1 hm1 hz1 hg1 hs1 hrg hi2 hg2 hs2 c0 c1 c2 c3 hmm
  obtain ⟨S, hS⟩ : ∃ S, w.heap.size = S := ⟨_, rfl⟩
  rw [hS] at HST hgl hml
  rw [hS]
  have HS := Lib.hid (fun _ : True => hS)
  clear hS
  obtain ⟨M2, hM2⟩ : ∃ M2, S + 1 = M2 := ⟨_, rfl⟩
  obtain ⟨r, hr⟩ : ∃ r, S + 2 = r := ⟨_, rfl⟩
  rw [hM2, hr] at HST
  rw [hM2, hr]
  have HM2 := Lib.hid (fun _ : True => hM2)
  clear hM2 hr
  go_wp2_with fail
  go_simp
  go_loopw [] (fun wr => CpRel w S M2 M (S + 3) s f l vs r wr) (fun wr => wr.rangeLeft M r)
  case atStart => exact HST.out
  case round =>
    obtain ⟨st, dn, hst⟩ := hrel
    have HC := Lib.hid hst
    clear hst
    rcases HC.out.iter.next 0 with ⟨hall, hnx⟩ | ⟨⟨k, v⟩, hp, hd, w', hnx, hit, hlt, hg', _, hent⟩
    · have HALL := Lib.hid hall
      clear hall
      go_wp2_with fail
      go_ret
      obtain ⟨vs', h1, h2⟩ := HC.out.last HALL.out HH.out.seg HH.out.len
      have h3 := HS.out trivial
      exact ⟨S, M2, S + 3, vs', rfl, h1, by omega, by have := HM2.out trivial; omega, HC.out.size, h2, HC.out.grown⟩
    · obtain ⟨i, hi, hvi, rfl⟩ := ents_mem hp
      simp only at hd hit hnx hent
      have hin : i < nSeg s l.length := by rw [← HH.out.len]; exact hi
      have hsne := segOf_ne (by omega) hin
      have hown := HH.out.own i hi
      rw [List.getElem?_eq_getElem hi, Option.some.injEq] at hvi
      rw [hvi] at hown
      obtain ⟨b, nv, cv, rfl, hnv, hnc, hcm⟩ := hown.at0 hsne
      have hnvs := segOf_le s l i
      have hgw := grown_new HC.out.grown HC.out.ne.2.2.2.2.2.2.2.1 hg'
      have HRB := Lib.hid (RB.of_own (hown.grown hgw))
      have hpos := List.length_pos_iff.2 hsne
      have HCL := Lib.hid (sl_cloneB b 0 nv cv (segOf s l i) w'.drew HRB.out.drew hnv (by omega) (by omega))
      have hbx := HC.out.box.kept hg' (by simpa using HC.out.ne.1)
      have c0 := hbx.cell 0 rfl
      have HMI := Lib.hid (HC.out.map.kept hg' (by simpa using HC.out.ne.2.1))
      have HFR := Lib.hid (HC.out.free hi hd)
      have HE := Lib.hid (fun (wa wb : World) (v' : Value) (ha : w'.grownBy wa none) (hb : wa.grownBy wb (some M2)) (hm : MapI wb M2 (entsO f st vs.length ++ [(((f + i : Nat) : Int), v')])) (ho : OwnB wa w'.heap.size v' (segOf s l i)) => HC.out.more hi hit hg' hlt hd ha hb hm ho hsne)
      obtain ⟨K, hK⟩ : ∃ K, f + i = K := ⟨_, rfl⟩
      rw [hK] at hnx hent
      have HK := Lib.hid (fun _ : True => hK)
      clear hp hd hit hlt hg' hi hvi hown hin hsne hnv hnc hcm hnvs hpos hK hgw
      go_wp2_with fail
      go_region_law (first
        | (go_simp
           go_at_call 55
           refine HCL.out.mono ?_
           rintro e wa ⟨v', rfl, hoA, hgA⟩
           have ba := (hbx.drew.grown hgA).cell 0 rfl
           obtain ⟨wb, hup, hmb, hgb⟩ := (HMI.out.drew.grown hgA).push HFR.out v'
           rw [HK.out trivial] at hup))
      all_goals (
        have HEND := Lib.hid (HE.out wa wb v' (grown_trans (grown_drew1 w') hgA) hgb hmb hoA)
        go_wp2_with fail
        exact HEND.out)

end Go.Proofs.Ytkemocbifancfaa
