/-
  A tape whose last bytes go.
-/
import Derived.Test.YtkemocbifancfaaTCutS
namespace Go.Proofs.Ytkemocbifancfaa
open Go.RowKit
set_option maxRecDepth 100000

/-- what is left when all from a number on goes -/
def cutT (s f : Nat) (l : List UInt8) (x : Int) : List UInt8 := if ((f * s + l.length : Nat) : Int) ≤ x then l else l.take ((max x ((f * s : Nat) : Int)).toNat - f * s)
def CutRel (w : World) (g M B s f : Nat) (l : List UInt8) (vs : List Value) (E B2 r : Nat) (wr : World) : Prop := ∃ st dn, CutSt w g M B s f l vs E B2 r st dn wr
def CutPost (w : World) (g M B s f : Nat) (l : List UInt8) (vs : List Value) (r : Ending) (w' : World) : Prop := r = .returned (.tuple #[]) ∧ ∃ vs', TapeIs w' g M B s f l vs' ∧ RowsOf w.heap.size vs vs' ∧ Kept (TG g M) w w'
theorem segOf_cut {s E i : Nat} {l : List UInt8} (h : (segOf s l i).length ≤ E - i * s) : segOf s (l.take E) i = segOf s l i := by
  rw [segOf_take, List.take_of_length_le h]
theorem segOf_le (s : Nat) (l : List UInt8) (i : Nat) : (segOf s l i).length ≤ s := by
  unfold segOf
  rw [List.length_take]
  omega
theorem CutSt.pull {w wr : World} {g M B s f : Nat} {l : List UInt8} {vs : List Value} {E B2 r : Nat} {st : Nat → Option Value} {dn : Int → Bool} (h : CutSt w g M B s f l vs E B2 r st dn wr) {u : World} (hg : wr.grownBy u (some r)) {i : Nat} (hi : i < vs.length) {v : Value} (hv : st i = some v) :
    MapI u M ((((f + i : Nat) : Int), v) :: entsO f (upd st i none) vs.length) :=
  (h.map.kept hg (by simpa using h.ne.2.1)).perm (entsO_pull hi hv)
theorem OwnB.at0 {w : World} {B : Nat} {v : Value} {l : List UInt8} (h : OwnB w B v l) (hne : l ≠ []) : ∃ b n c, v = .slice (Option.some ⟨b, 0, none⟩) n c ∧ l.length = n ∧ n ≤ c ∧ c ≤ maxLen := by
  rcases h.2 with ⟨hv, h0⟩ | ⟨g, cap, cur, hv, _, _, hnc, hm, _⟩
  · exact absurd (List.eq_nil_of_length_eq_zero h0) hne
  · exact ⟨g, _, cap, hv, rfl, hnc, hm⟩
theorem CutSt.gone {w wr w' wb : World} {g M B s f : Nat} {l : List UInt8} {vs : List Value} {E B2 r : Nat} {st : Nat → Option Value} {dn : Int → Bool} (h : CutSt w g M B s f l vs E B2 r st dn wr) {i : Nat} (hi : i < vs.length)
    (hn : IterI w' B2 r (ents f vs) (fun z => dn z || z == ((f + i : Nat) : Int))) (hg : wr.grownBy w' (some r)) (hlt : w'.rangeLeft B2 r < wr.rangeLeft B2 r) (hb : w'.grownBy wb (some M)) (hm : MapI wb M (entsO f (upd st i none) vs.length)) (hE : E ≤ i * s) :
    CutRel w g M B s f l vs E B2 r wb ∧ wb.rangeLeft B2 r < wr.rangeLeft B2 r := by
  have hs := h.step hi hn hg (World.grownBy.refl _ _) hb (x := none) hm (by simp; omega) (fun v e => by cases e)
  exact ⟨⟨_, _, hs.1⟩, by rw [hs.2]; exact hlt⟩
theorem CutSt.stays {w wr w' : World} {g M B s f : Nat} {l : List UInt8} {vs : List Value} {E B2 r : Nat} {st : Nat → Option Value} {dn : Int → Bool} (h : CutSt w g M B s f l vs E B2 r st dn wr) {i : Nat} (hi : i < vs.length)
    (hn : IterI w' B2 r (ents f vs) (fun z => dn z || z == ((f + i : Nat) : Int))) (hg : wr.grownBy w' (some r)) (hlt : w'.rangeLeft B2 r < wr.rangeLeft B2 r) {v : Value} (hv : st i = some v) (hd : dn ((f + i : Nat) : Int) = false) (hE : i * s < E) (hle : (segOf s l i).length ≤ E - i * s) :
    CutRel w g M B s f l vs E B2 r w' ∧ w'.rangeLeft B2 r < wr.rangeLeft B2 r := by
  have ho := h.own i v hi hv
  rw [if_neg (by rw [hd]; simp)] at ho
  have hs := h.step hi hn hg (World.grownBy.refl _ _) (World.grownBy.refl _ _) (x := some v) (by rw [upd_self hv]; exact h.map.kept hg (by simpa using h.ne.2.1)) (by simp; omega) (fun u e => by
    cases e
    refine ⟨?_, ho.2, fun j u hj hne hu => h.apart i j v u hi hj (fun e => hne e.symm) hv hu, h.rows i v hi hv⟩
    rw [segOf_cut hle]
    exact ho.1.kept hg (.inr ho.2))
  exact ⟨⟨_, _, hs.1⟩, by rw [hs.2]; exact hlt⟩
theorem CutSt.short {w wr w' wa wb : World} {g M B s f : Nat} {l : List UInt8} {vs : List Value} {E B2 r : Nat} {st : Nat → Option Value} {dn : Int → Bool} (h : CutSt w g M B s f l vs E B2 r st dn wr) {i : Nat} (hi : i < vs.length)
    (hn : IterI w' B2 r (ents f vs) (fun z => dn z || z == ((f + i : Nat) : Int))) (hg : wr.grownBy w' (some r)) (hlt : w'.rangeLeft B2 r < wr.rangeLeft B2 r) (hB : B ≤ w.heap.size) (ha : w'.grownBy wa none) (hb : wa.grownBy wb (some M)) {v : Value} (ho : OwnB wa w'.heap.size v (segOf s (l.take E) i)) (hne : segOf s (l.take E) i ≠ [])
    (hm : MapI wb M ((((f + i : Nat) : Int), v) :: entsO f (upd st i none) vs.length)) (hE : i * s < E) :
    CutRel w g M B s f l vs E B2 r wb ∧ wb.rangeLeft B2 r < wr.rangeLeft B2 r := by
  obtain ⟨kv, hkv⟩ := ho.some hne
  have hkl := (ho.lt kv hkv).1
  have hrl := hn.map.1
  have hs0 := h.kept.size
  have hs1 := hg.size
  have hs := h.step hi hn hg ha hb (x := some v) (hm.perm (entsO_add hi)) (by simp; omega) (fun u e => by
    cases e
    refine ⟨Joins.ownsRow_le ho (by omega), fun e => ?_, fun j u hj hne hu e => ?_, fun k hk => .inr ?_⟩
    · rw [hkv, Option.some.injEq] at e; omega
    · rw [hkv] at e
      have := ((h.own j u hj hu).1.lt kv e.symm).2
      omega
    · rw [hkv, Option.some.injEq] at hk; omega)
  exact ⟨⟨_, _, hs.1⟩, by rw [hs.2]; exact hlt⟩
set_option maxHeartbeats 3200000 in
theorem tape_cut (g M B s f : Nat) (l : List UInt8) (vs : List Value) (x : Int) (w : World) (h : TapeIs w g M B s f l vs) (hB : B ≤ w.heap.size) (hbig : f * s + l.length ≤ 1099511627776) (hx : -9223372036854775808 ≤ x) :
    Calls Try.prog 60 #[.pointer (some ⟨g, 0, none⟩), .int .i64 x] w (CutPost w g M B s f (cutT s f l x) vs) := by
  have c3 := h.box.cell 3 rfl
  have HH := Lib.hid h
  have HB := Lib.hid hB
  by_cases hge : ((f * s + l.length : Nat) : Int) ≤ x
  · rw [show cutT s f l x = l from if_pos hge]
    obtain ⟨e, he⟩ : ∃ e, f * s + l.length = e := ⟨_, rfl⟩
    rw [he] at hge c3
    clear h hbig he hB
    go_enter Try.func60, Try.ntmps60
    go_wp2_with fail
    go_end0
    exact ⟨rfl, vs, HH.out, fun v hv k hk => .inl ⟨v, hv, hk⟩, Kept.refl _ _⟩
  · rw [show cutT s f l x = l.take ((max x ((f * s : Nat) : Int)).toNat - f * s) from if_neg hge]
    have HF := Lib.hid (tape_first _ _ _ _ _ _ _ w h (by omega))
    have hsg := h.seg
    obtain ⟨F, hF⟩ : ∃ F, f * s = F := ⟨_, rfl⟩
    obtain ⟨y, hy⟩ : ∃ y : Nat, max x (F : Int) = (y : Int) := ⟨(max x (F : Int)).toNat, by omega⟩
    have hyE : (max x ((f * s : Nat) : Int)).toNat - f * s = y - F := by rw [hF, hy]; rfl
    rw [hyE]
    rw [hF] at HF hge c3 hbig
    have m1 := max_i64t x (F : Int) (y : Int) hy.symm
    obtain ⟨e, he⟩ : ∃ e, F + l.length = e := ⟨_, rfl⟩
    rw [he] at hge c3 hbig
    obtain ⟨E, hE⟩ : ∃ E, y - F = E := ⟨_, rfl⟩
    rw [hE]
    have hye : y ≤ e := by omega
    have HQ := Lib.hid (fun _ : True => show f * s = F ∧ F + l.length = e ∧ F + E = y ∧ E ≤ l.length from ⟨hF, he, by omega, by omega⟩)
    clear h hF hy hyE hE he hB
    go_enter Try.func60, Try.ntmps60
    go_wp2_with fail
    refine HF.out.mono ?_
    rintro r w1 ⟨rfl, hg1⟩
    have HG1 := Lib.hid hg1
    have HT1 := Lib.hid (HH.out.grown hg1)
    have c0 := HT1.out.box.cell 0 rfl
    clear hg1 c3
    go_wp2_with fail
    refine (maps_clone M (ents f vs) w1 HT1.out.map).mono ?_
    rintro r w2 ⟨rfl, hm2, hg2, hs2⟩
    have HM2 := Lib.hid hm2
    have HG2 := Lib.hid (grown_trans HG1.out hg2)
    have HS2 := Lib.hid hs2
    obtain ⟨B2, hB2⟩ : ∃ B2, w1.heap.size = B2 := ⟨_, rfl⟩
    rw [hB2] at HM2 HS2
    rw [hB2]
    have HB2 := Lib.hid (show w.heap.size ≤ B2 by rw [← hB2]; exact HG1.out.size)
    clear hm2 hg2 hs2 hB2 c0
    obtain ⟨w3, hrg, hi3, hg3, hs3⟩ := HM2.out.range
    have HST := Lib.hid (show CutRel w g M B s f l vs E B2 w2.heap.size w3 from ⟨_, _, CutSt.start HH.out HG2.out HB2.out (Nat.le_refl _) hi3 hg3⟩)
    obtain ⟨r, hr⟩ : ∃ r, w2.heap.size = r := ⟨_, rfl⟩
    rw [hr] at HST
    rw [hr] at hrg
    clear hi3 hg3 hs3 hr
    go_wp2_with fail
    go_loopw [] (fun wr => CutRel w g M B s f l vs E B2 r wr) (fun wr => wr.rangeLeft B2 r)
    case atStart => exact HST.out
    case round =>
      obtain ⟨st, dn, hst⟩ := hrel
      have HC := Lib.hid hst
      clear hst
      rcases HC.out.iter.next 0 with ⟨hall, hnx⟩ | ⟨⟨k, v⟩, hp, hd, w', hnx, hit, hlt, hg', _, hent⟩
      · have HALL := Lib.hid hall
        have hbx := HC.out.box
        have c3 := hbx.cell 3 rfl
        have f3 := hbx.open
        clear hall hbx
        go_wp2_with fail
        go_end0
        obtain ⟨q1, q2, q3, q4⟩ := HQ.out trivial
        have hl := HC.out.last HALL.out q4 HH.out.seg HH.out.len
        rw [show f * s + E = y by rw [q1, q3]] at hl
        obtain ⟨vs', h1, h2, h3⟩ := hl
        exact ⟨rfl, vs', h1, h2, h3⟩
      · obtain ⟨i, hi, hvi, rfl⟩ := ents_mem hp
        simp only at hd hit hnx hent
        have hst : st i = some v := by rw [HC.out.todo i hi hd]; exact hvi
        have hown := HC.out.own i v hi hst
        rw [if_neg (by rw [hd]; simp)] at hown
        have hin : i < nSeg s l.length := by rw [← HH.out.len]; exact hi
        have hsne := segOf_ne (by omega) hin
        obtain ⟨b, nv, cv, rfl, hnv, hnc, hcm⟩ := hown.1.at0 hsne
        have HRB := Lib.hid (RB.of_own (hown.1.kept hg' (.inr hown.2)))
        have hnvs := segOf_le s l i
        have him := (lt_nSeg (by omega)).1 hin
        obtain ⟨m, hm⟩ : ∃ m, i * s = m := ⟨_, rfl⟩
        obtain ⟨K, hK⟩ : ∃ K, f + i = K := ⟨_, rfl⟩
        obtain ⟨p, hpp⟩ : ∃ p, K * s = p := ⟨_, rfl⟩
        obtain ⟨z1, z2, z3, z4⟩ := HQ.out trivial
        have hpm : p = F + m := by rw [← hpp, ← hK, Nat.add_mul, z1, hm]
        have p1 : (K : Int) * (s : Int) = (p : Int) := by rw [← hpp]; push_cast; rfl
        have hbx := HC.out.box.kept hg' (by simpa using HC.out.ne.1)
        have c0 := hbx.cell 0 rfl
        have c1 := hbx.cell 1 rfl
        have hpull := HC.out.pull hg' hi hst
        have HPULL := Lib.hid hpull
        have HIT := Lib.hid hit
        have HG := Lib.hid hg'
        have HLT := Lib.hid hlt
        have HI := Lib.hid hi
        have HK := Lib.hid (fun _ : True => hK)
        have HM := Lib.hid (fun _ : True => hm)
        have HST2 := Lib.hid (fun _ : True => hst)
        have HD := Lib.hid (fun _ : True => hd)
        have HNV := Lib.hid (fun _ : True => hnv)
        rw [hm] at him
        rw [hK] at hnx hent
        have hpb : p ≤ 1099511627776 := by omega
        by_cases h1 : E ≤ m
        · have j1 : (y : Int) - (p : Int) ≤ 0 := by omega
          rw [hK] at hpull
          obtain ⟨wb, hdl, hmb, hgb⟩ := hpull.drop (i := 0) rfl 0
          have HEND := Lib.hid (HC.out.gone HI.out HIT.out HG.out HLT.out hgb hmb (by rw [hm]; exact h1))
          clear hp hd hit hlt hg' hi hvi hst hown hin hsne hnv hm hK hpp hpm hbx hmb hgb hpull z1 z2 z3 z4
          go_wp2_with fail
          exact HEND.out
        · by_cases h2 : E - m < nv
          · obtain ⟨q, hq⟩ : ∃ q, E - m = q := ⟨_, rfl⟩
            have q0 : (y : Int) - (p : Int) = (q : Int) := by omega
            have hseg : segOf s (l.take E) i = (segOf s l i).take q := by rw [segOf_take, hm, hq]
            have HSEG := Lib.hid (fun _ : True => hseg)
            have HQN := Lib.hid (show 0 < q ∧ q < nv ∧ nv ≤ cv ∧ nv ≤ 4096 from ⟨by omega, by omega, hnc, by omega⟩)
            have HE := Lib.hid (fun _ : True => show i * s < E by rw [hm]; omega)
            have HCL := Lib.hid (sl_cloneB b 0 q cv ((segOf s l i).take q) w'.drew (HRB.out.take q).drew (by rw [List.length_take, hnv]; omega) (by omega) (by omega))
            have i0 : (0 : Int) ≤ (q : Int) := by omega
            have i1 : (q : Int) ≤ (cv : Int) := by omega
            have j1 : ¬ (y : Int) - (p : Int) ≤ 0 := by omega
            have j2 : (y : Int) - (p : Int) < (nv : Int) := by omega
            have hq0 : 0 < q := by omega
            clear hp hd hit hlt hg' hi hvi hst hown hin hsne hnv hm hK hpp hpm hpull z1 z2 z3 z4 hq hseg
            go_wp2_with fail
            go_region_law (first
              | (go_simp
                 go_at_call 55
                 refine HCL.out.mono ?_
                 rintro e wa ⟨v', rfl, hoA, hgA⟩
                 have ba := (hbx.drew.grown hgA).cell 0 rfl
                 obtain ⟨wb, hup, hmb, hgb⟩ := (HPULL.out.drew.grown hgA).set (i := 0) rfl v'
                 rw [HK.out trivial] at hup))
            all_goals (
              have HEND := Lib.hid (HC.out.short HI.out HIT.out HG.out HLT.out HB.out (grown_trans (grown_drew1 w') hgA) hgb (by rw [HSEG.out trivial]; exact hoA) (by rw [HSEG.out trivial]; intro e; have e2 := congrArg List.length e; rw [List.length_take, HNV.out trivial, List.length_nil] at e2; have := HQN.out; omega) hmb (HE.out trivial))
              go_wp2_with fail
              exact HEND.out)
          · have j1 : ¬ (y : Int) - (p : Int) ≤ 0 := by omega
            have j2 : ¬ (y : Int) - (p : Int) < (nv : Int) := by omega
            have HEND := Lib.hid (HC.out.stays HI.out HIT.out HG.out HLT.out hst hd (by rw [hm]; omega) (by rw [hnv, hm]; omega))
            clear hp hd hit hlt hg' hi hvi hst hown hin hsne hnv hm hK hpp hpm hpull z1 z2 z3 z4
            go_wp2_with fail
            exact HEND.out

end Go.Proofs.Ytkemocbifancfaa
