/-
  All bytes of a tape from a number on.
-/
import Derived.Test.YtkemocbifancfaaTNil
namespace Go.Proofs.Ytkemocbifancfaa
open Go.RowKit
set_option maxRecDepth 100000

/-- where the reading begins, counted from the first byte that is there -/
def fromQ (s f : Nat) (from_ : Int) : Nat := (max from_ ((f * s : Nat) : Int)).toNat - f * s
def bytesF (s f : Nat) (l : List UInt8) (from_ : Int) : List UInt8 := if ((f * s + l.length : Nat) : Int) ≤ from_ then [] else l.drop (fromQ s f from_)
theorem wrap_max (y p a : Nat) (hy : y ≤ 4398046511104) (hp : p ≤ 4398046511104) (ha : a = y - p) : (if IntKind.i64.wrap ((y : Int) - IntKind.i64.wrap (p : Int)) < 0 then 0 else IntKind.i64.wrap ((y : Int) - IntKind.i64.wrap (p : Int))) = (a : Int) := by
  rw [show IntKind.i64.wrap (p : Int) = (p : Int) by rw [IntKind.wrap_i64]; omega, show IntKind.i64.wrap ((y : Int) - (p : Int)) = (y : Int) - (p : Int) by rw [IntKind.wrap_i64]; omega]
  split <;> omega
theorem max_i64t (x y m : Int) (h : m = max x y) (u : World) : (Builtin.max_ #[2, 2] 2 #[.int .i64 x, .int .i64 y]).run Try.prog u = .ok (.int .i64 m) u := by
  subst h
  simp only [Builtin.max_, List.foldlM_cons, List.foldlM_nil, Builtin.max2, Sem.run_bind, Sem.run_pure, Result.andThen_ok]
  congr 2
  split <;> omega
/-- what has been gathered when i segments are through -/
def gotB (s : Nat) (l : List UInt8) (q i : Nat) : List UInt8 := (l.take (i * s)).drop q
theorem gotB_none {s : Nat} {l : List UInt8} {q i : Nat} (h : i * s ≤ q) : gotB s l q i = [] := by
  unfold gotB
  exact List.drop_of_length_le (by rw [List.length_take]; omega)
theorem gotB_all {s : Nat} {l : List UInt8} {q i : Nat} (h : l.length ≤ i * s) : gotB s l q i = l.drop q := by
  unfold gotB
  rw [List.take_of_length_le h]
theorem gotB_next {s : Nat} {l : List UInt8} {q i : Nat} (h : i * s ≤ l.length) : gotB s l q (i + 1) = gotB s l q i ++ (segOf s l i).drop (q - i * s) := by
  unfold gotB segOf
  rw [Nat.add_mul, Nat.one_mul, List.take_add, List.drop_append, List.length_take, Nat.min_eq_left h]
def BytesRel (w : World) (s f : Nat) (l : List UInt8) (q n : Nat) (out ks : Value) (wr : World) : Prop :=
  ∃ i : Nat, i ≤ n + 1 ∧ q / s ≤ i ∧ ks = .int .i64 ((f + i : Nat) : Int) ∧ OwnB wr w.heap.size out (gotB s l q i) ∧ w.grownBy wr none
def TapeBytesPost (w : World) (l : List UInt8) (r : Ending) (w' : World) : Prop := ∃ v, r = .returned v ∧ OwnB w' w.heap.size v l ∧ w.grownBy w' none
set_option maxHeartbeats 12800000 in
theorem tape_bytes (g M B s f : Nat) (l : List UInt8) (vs : List Value) (x : Int) (w : World) (h : TapeIs w g M B s f l vs) (hbig : f * s + l.length ≤ 1099511627776) (hx : -9223372036854775808 ≤ x) :
    Calls Try.prog 54 #[.pointer (some ⟨g, 0, none⟩), .int .i64 x] w (TapeBytesPost w (bytesF s f l x)) := by
  have hmn := map_nil
  have c0 := h.box.cell 0 rfl
  have c3 := h.box.cell 3 rfl
  by_cases hge : ((f * s + l.length : Nat) : Int) ≤ x
  · rw [show bytesF s f l x = [] from if_pos hge]
    generalize f * s + l.length = e at *
    clear h hbig
    go_enter Try.func54, Try.ntmps54
    go_wp2_with fail
    go_ret
    exact ⟨_, rfl, OwnB.nil _ _, World.grownBy.refl _ _⟩
  · rw [show bytesF s f l x = l.drop (fromQ s f x) from if_neg hge]
    have HF := Lib.hid (tape_first _ _ _ _ _ _ _ w h (by omega))
    have hsg := h.seg
    have HH := Lib.hid h
    obtain ⟨F, hF⟩ : ∃ F, f * s = F := ⟨_, rfl⟩
    obtain ⟨y, hy⟩ : ∃ y : Nat, max x (F : Int) = (y : Int) := ⟨(max x (F : Int)).toNat, by omega⟩
    have hq : fromQ s f x = y - F := by unfold fromQ; rw [hF, hy]; rfl
    rw [hq]
    rw [hF] at HF hge c3 hbig
    have m1 := max_i64t x (F : Int) (y : Int) hy.symm
    obtain ⟨e, he⟩ : ∃ e, F + l.length = e := ⟨_, rfl⟩
    rw [he] at hge c3 hbig
    have hye : y ≤ e := by omega
    have hFy : F ≤ y := by omega
    have HE := Lib.hid (fun _ : True => And.intro hF he)
    obtain ⟨n, hn⟩ : ∃ n, e - y = n := ⟨_, rfl⟩
    have q0 : (e : Int) - (y : Int) = (n : Int) := by omega
    clear h hF hy hq he
    go_enter Try.func54, Try.ntmps54
    go_wp2_with fail
    refine HF.out.mono ?_
    rintro r w2 ⟨rfl, hg2⟩
    have HG2 := Lib.hid hg2
    have HT := Lib.hid (HH.out.grown hg2)
    have c3 := HT.out.box.cell 3 rfl
    have c1 := HT.out.box.cell 1 rfl
    rw [(HE.out trivial).1, (HE.out trivial).2] at c3
    obtain ⟨i0, hi0, hz0, hz1, hz2⟩ := info_parts info_u8
    obtain ⟨wm, hmk, hown, hgm⟩ := run_make_own (P := Try.prog) w2 w.heap.size 23 5 i0 _ 1 Try.underlying23 hi0 hz0 hz1 .i64 .i64 n (by rw [hz2]; omega) (by unfold maxLen; omega) hg2.size
    have HOW := Lib.hid (show OwnB wm w.heap.size (.slice (some ⟨w2.heap.size, 0, none⟩) 0 n) [] from hown)
    have HGM := Lib.hid (grown_trans hg2 hgm)
    have HTM := Lib.hid (HT.out.grown hgm)
    have c1 := HTM.out.box.cell 1 rfl
    obtain ⟨q, hq⟩ : ∃ q, y - F = q := ⟨_, rfl⟩
    obtain ⟨K, hK⟩ : ∃ K, f + q / s = K := ⟨_, rfl⟩
    have hyk : y / s = K := by
      have h1 := seg_next f s q (by omega)
      rw [(HE.out trivial).1, show F + q = y by omega, hK] at h1
      exact h1
    have q1 : (y : Int).tdiv (s : Int) = (K : Int) := by rw [← hyk]; rfl
    have q2 : ((s : Int) == 0) = false := by rw [beq_eq_false_iff_ne]; omega
    have q3 : ¬ s = 0 := by omega
    have hKb : K ≤ y := by rw [← hyk]; exact Nat.div_le_self _ _
    have q4 : IntKind.i64.wrap (K : Int) = (K : Int) := by rw [IntKind.wrap_i64]; omega
    have HQ := Lib.hid (fun _ : True => And.intro hq hK)
    clear hi0 hz0 hz1 hz2 hg2 c0 hown hgm hq hK hyk
    go_wp2_with fail
    go_loopw [5, 6] (fun out ks wr => BytesRel w s f l q (nSeg s l.length) out ks wr) (fun _ ks _ => f + nSeg s l.length + 1 - (intOf ks).toNat)
    case atStart =>
      obtain ⟨e1, e2⟩ := HQ.out trivial
      have h3 := (nSeg_spec s l.length (by omega)).1
      have h4 := Nat.div_mul_le_self q s
      have h5 := (HE.out trivial).2
      refine ⟨q / s, ?_, Nat.le_refl _, by rw [e2], by rw [gotB_none h4]; exact HOW.out, HGM.out⟩
      have h6 : q / s * s ≤ nSeg s l.length * s := by omega
      have h7 := Nat.le_of_mul_le_mul_right h6 (show 0 < s by omega)
      omega
    case round =>
      obtain ⟨i, hi, hqi, rfl, how, hg⟩ := hrel
      have HTR := Lib.hid (HH.out.grown hg)
      have HO := Lib.hid how
      have HG := Lib.hid hg
      have c0 := HTR.out.box.cell 0 rfl
      have c1 := HTR.out.box.cell 1 rfl
      have c3 := HTR.out.box.cell 3 rfl
      rw [(HE.out trivial).1, (HE.out trivial).2] at c3
      obtain ⟨k, hk⟩ : ∃ k, f + i = k := ⟨_, rfl⟩
      obtain ⟨p, hp⟩ : ∃ p, k * s = p := ⟨_, rfl⟩
      obtain ⟨m, hm⟩ : ∃ m, i * s = m := ⟨_, rfl⟩
      have hpm : p = F + m := by rw [← hp, ← hk, Nat.add_mul, (HE.out trivial).1, hm]
      have p1 : (k : Int) * (s : Int) = (p : Int) := by rw [← hp]; push_cast; rfl
      have hel := (HE.out trivial).2
      have hns := nSeg_spec s l.length (by omega)
      have hmb : m ≤ (nSeg s l.length + 1) * s := by rw [← hm]; exact Nat.mul_le_mul_right s hi
      rw [Nat.add_mul, Nat.one_mul] at hmb
      have hpb : p ≤ 2199023255552 := by omega
      have hkb : k ≤ p := by rw [← hp]; exact Nat.le_mul_of_pos_right _ (by omega)
      have HI := Lib.hid (fun _ : True => And.intro hk (And.intro hm hi))
      rw [hk]
      by_cases hlt : m < l.length
      · have j1 : (p : Int) < (e : Int) := by omega
        have hiv : i < vs.length := by
          rw [HH.out.len]
          have h1 : i * s < nSeg s l.length * s := by omega
          exact Nat.lt_of_mul_lt_mul_right h1
        obtain ⟨v, hv⟩ : ∃ v, vs[i] = v := ⟨_, rfl⟩
        have hent : (ents f vs)[i]? = some ((k : Int), v) := by rw [ents_get, List.getElem?_eq_getElem hiv, ← hk, hv]; rfl
        have hown := HTR.out.own i hiv
        rw [hv] at hown
        obtain ⟨S, hS⟩ : ∃ S, segOf s l i = S := ⟨_, rfl⟩
        rw [hS] at hown
        obtain ⟨av, nv, cv, rfl, hnv⟩ := hown.len
        obtain ⟨a, ha⟩ : ∃ a, q - m = a := ⟨_, rfl⟩
        have hqs : q < m + s := by
          have h1 := Nat.div_add_mod q s
          have h2 := Nat.mod_lt q (show s > 0 by omega)
          have h3 : q / s * s ≤ i * s := Nat.mul_le_mul_right s hqi
          rw [Nat.mul_comm] at h1
          generalize q / s * s = t at *
          omega
        have hSl : S.length = min s (l.length - m) := by rw [← hS]; unfold segOf; rw [List.length_take, List.length_drop, hm]
        have hqF := (HQ.out trivial).1
        have hanv : a ≤ nv := by omega
        obtain ⟨gr, rfl⟩ : ∃ gr, av = some ⟨gr, 0, none⟩ := by
          rcases hown.2 with ⟨hv0, h0⟩ | ⟨g', cap, cur, hv0, _⟩
          · omega
          · cases hv0; exact ⟨g', rfl⟩
        have HGL := Lib.hid (show (gotB s l q i).length ≤ 1099511627776 by unfold gotB; rw [List.length_drop, List.length_take]; omega)
        have HNB := Lib.hid (show nv ≤ 4096 by omega)
        have hncv : nv ≤ cv := by
          rcases hown.2 with ⟨hv0, _⟩ | ⟨g', cap, cur, hv0, _, _, hnc, _⟩
          · cases hv0
          · cases hv0; omega
        have p2 := max_i64t ((y : Int) - (p : Int)) 0 (a : Int) (by omega)
        have p3 := wrap_max y p a (by omega) (by omega) (by omega)
        have HRBS := Lib.hid (RB.of_own hown)
        have HIV := Lib.hid (show i < nSeg s l.length ∧ q / s ≤ i ∧ i * s ≤ l.length from ⟨by rw [← HH.out.len]; exact hiv, hqi, by omega⟩)
        have HENT := Lib.hid (fun _ : True => hent)
        have HNV := Lib.hid (fun _ : True => And.intro hnv (And.intro hS ha))
        have i0 : (0 : Int) ≤ (a : Int) := by omega
        have i1 : (a : Int) ≤ (nv : Int) := by omega
        have i2 : (a : Int) ≤ (cv : Int) := by omega
        have i3 : (nv : Int) ≤ (cv : Int) := by omega
        clear hk hp hm hpm hel hns hmb hiv hent hv hown hS hnv ha hqs hSl hqF how hg hi hqi
        go_wp2_with fail
        go_quiet (fail)
        generalize hw1 : wr.drewN _ = w1
        have hg1 : wr.grownBy w1 none := by rw [← hw1]; exact grown_drewN _ _
        have ht := HTR.out.grown hg1
        have hlk := ht.map.drew.look (HENT.out trivial)
        have b0 := ht.box.cell 0 rfl
        have b1 := ht.box.cell 1 rfl
        have hrbA : RB w1 (if cv = a then some ⟨gr, 0, none⟩ else some ⟨gr, a, none⟩) (S.drop a) := by
          have hr := HRBS.out.oldg hg1
          intro j hj
          rw [List.length_drop] at hj
          have hn := (HNV.out trivial).1
          obtain ⟨b', o', e', hc⟩ := hr (a + j) (by omega)
          cases e'
          rw [if_neg (by omega)]
          exact ⟨gr, a, rfl, by rw [List.getElem_drop]; rw [Nat.zero_add] at hc; exact hc⟩
        have HRA := Lib.hid hrbA
        have HO1 := Lib.hid (HO.out.grown hg1)
        have HG1 := Lib.hid (grown_trans HG.out hg1)
        have HSD := Lib.hid (fun _ : True => show (S.drop a).length = nv - a by rw [List.length_drop, (HNV.out trivial).1])
        clear ht hrbA hw1 hg1 c0 c1 c3
        go_wp2_with fail
        go_region_law (first
          | (refine step_append_bytes2 rfl _ _ rfl w.heap.size u5 (gotB s l q i) rfl HO1.out.drew _ _ _ (S.drop a) rfl HRA.out.drew (HSD.out trivial) (by have := HGL.out; have := HNB.out; omega) (grown_drew HG1.out).size ?_
             intro v' wa hoA hgA hlA))
        all_goals (
          have HOA := Lib.hid hoA
          have HGA := Lib.hid (grown_row (grown_drew HG1.out) (fun z h => (HO1.out.lt z h).1) hgA)
          clear hoA hgA hlA hlk b0 b1 p2 p3
          go_wp2_with fail
          go_roundw
          all_goals first
            | (obtain ⟨e1, e2, e3⟩ := HI.out trivial
               obtain ⟨e4, e5, e6⟩ := HIV.out
               obtain ⟨e7, e8, e9⟩ := HNV.out trivial
               refine ⟨i + 1, by omega, by omega, by rw [← Nat.add_assoc, e1]; go_num, ?_, HGA.out⟩
               rw [gotB_next e6, e8, e2, e9]
               exact HOA.out)
            | (have e1 := (HI.out trivial).1
               have e4 := HIV.out.1
               simp [intOf]
               omega))
      · have j1 : ¬ (p : Int) < (e : Int) := by omega
        have HALL := Lib.hid (fun _ : True => gotB_all (s := s) (l := l) (q := q) (i := i) (by omega))
        clear hk hp hpm hel hns hmb how hg hi hqi
        go_wp2_with fail
        go_quiet (fail)
        generalize hw1 : wr.drewN _ = w1
        have hg1 : wr.grownBy w1 none := by rw [← hw1]; exact grown_drewN _ _
        have HO1 := Lib.hid (HO.out.grown hg1)
        have HG1 := Lib.hid (grown_trans HG.out hg1)
        clear hw1 hg1
        go_wp2_with fail
        go_ret
        exact ⟨_, rfl, by have e := HO1.out; rw [HALL.out trivial] at e; rw [(HQ.out trivial).1]; exact e, HG1.out⟩

end Go.Proofs.Ytkemocbifancfaa
