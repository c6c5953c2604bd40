/-
  Bytes come behind a tape's end.
-/
import Derived.Test.YtkemocbifancfaaTStep
import Derived.Test.YtkemocbifancfaaTNew
namespace Go.Proofs.Ytkemocbifancfaa
open Go.RowKit
set_option maxRecDepth 100000

theorem step_append_bytes2 {ops : Array Oper} {o : Oper} {a : Act} {w : World} {K : Act → World → Prop} {Q : Exit → Act → World → Prop} {E : Prop} (hgd : o.guard = none) (s x : Operand)
    (ho : o.op = .call { callee := .builtin .append, args := #[s, x], argTypes := #[23, 23] })
    (base : Nat) (v : Value) (l : List UInt8) (hs : a.eval s = v) (hown : OwnB w base v l)
    (ao : Option Addr) (m c : Nat) (src : List UInt8) (hx : a.eval x = .slice ao m c) (hr : RB w ao src) (hm : src.length = m)
    (hbytes : l.length + m ≤ 140737488355328) (hbase : base ≤ w.heap.size)
    (h : ∀ v' w', OwnB w' base v' (l ++ src) → w.grownBy w' v.ownBlock → (∀ k, v'.ownBlock = some k → v.ownBlock = some k ∨ w.heap.size ≤ k) → K (a.put o.dst v') w') :
    if Region.wanted o (yielded ops a.tmps) = true then Oper.wp Try.prog o a w K Q else E := by
  have hw : Region.wanted o (yielded ops a.tmps) = true := by simp [Region.wanted, hgd]
  rw [if_pos hw]
  exact wp_append_bytes2 s x ho base v l hs hown ao m c src hx hr hm hbytes hbase h
theorem map_nil (M : Nat) (w : World) : (binOp BinOp.eql 98 (Value.map (some M)) (Value.map none)).run Try.prog w = .ok (.bool false) w := by kernel_rfl
/-- the blocks of a tape -/
def TX (g M : Nat) (vs : List Value) (k : Nat) : Prop := k = g ∨ k = M ∨ ∃ v ∈ vs, v.ownBlock = some k
/-- the rows of vs' are those of vs, or new ones behind n -/
def RowsOf (n : Nat) (vs vs' : List Value) : Prop := ∀ v ∈ vs', ∀ k, v.ownBlock = some k → (∃ u ∈ vs, u.ownBlock = some k) ∨ n ≤ k
def AppRel (w : World) (g M B s f : Nat) (l b : List UInt8) (vs0 : List Value) (ao : Option Addr) (n c : Nat) (sl : Value) (wr : World) : Prop :=
  ∃ (q : Nat) (ad : Option Addr) (vs : List Value), q ≤ n ∧ sl = .slice ad (n - q) (c - q) ∧ (q < n → ∃ bb oo, ao = some ⟨bb, oo, none⟩ ∧ ad = some ⟨bb, oo + q, none⟩) ∧ TapeIs wr g M B s f (l ++ b.take q) vs ∧ RowsOf w.heap.size vs0 vs ∧ Kept (TX g M vs0) w wr
theorem Kept.rowB {X : Nat → Prop} {w a b : World} {row : Option Nat} (h : Kept X w a) (hg : a.grownBy b row) (hr : ∀ k, row = some k → X k ∨ w.heap.size ≤ k) : Kept X w b :=
  ⟨hg.os.trans h.os, hg.tape.trans h.tape, hg.output.trans h.output, Nat.le_trans h.size hg.size, fun k hk hx => (hg.block k (Nat.lt_of_lt_of_le hk h.size) (fun e => by
    rcases hr k e.symm with h1 | h1
    · exact hx h1
    · omega)).trans (h.block k hk hx)⟩
theorem min_i64n (x : Nat) (y : Int) (m : Nat) (h : (m : Int) = min (x : Int) y) (u : World) : (Builtin.min_ #[2, 2] 2 #[.int .i64 (x : Int), .int .i64 y]).run Try.prog u = .ok (.int .i64 (m : Int)) u := by
  rw [h]
  simp only [Builtin.min_, List.foldlM_cons, List.foldlM_nil, Builtin.min2, Sem.run_bind, Sem.run_pure, Result.andThen_ok]
  congr 2
  split <;> omega
def AppPost (w : World) (g M B s f : Nat) (l : List UInt8) (vs0 : List Value) (r : Ending) (w' : World) : Prop := r = .returned (.tuple #[]) ∧ ∃ vs, TapeIs w' g M B s f l vs ∧ RowsOf w.heap.size vs0 vs ∧ Kept (TX g M vs0) w w'
set_option maxHeartbeats 12800000 in
theorem tape_append (g M B s f : Nat) (l b : List UInt8) (vs0 : List Value) (ao : Option Addr) (n c : Nat) (w : World) (h : TapeIs w g M B s f l vs0) (hB : B ≤ w.heap.size)
    (hb : RX w (TX g M vs0) ao b) (hn : b.length = n) (hnc : n ≤ c) (hc : c ≤ maxLen) (hbig : f * s + l.length + n ≤ 1099511627776) :
    Calls Try.prog 58 #[.pointer (some ⟨g, 0, none⟩), .slice ao n c] w (AppPost w g M B s f (l ++ b) vs0) := by
  have HH := Lib.hid h; have HB := Lib.hid hB; have HX := Lib.hid hb; have HN := Lib.hid (fun _ : True => hn); have HBIG := Lib.hid hbig
  have c0 := h.box.cell 0 rfl
  have hsg := h.seg
  have hcm : c ≤ 9223372036854775807 := hc
  clear h hB hb hn hbig hc
  go_enter Try.func58, Try.ntmps58
  have hmn := map_nil
  go_wp2_with fail
  go_loopw [1] (fun sl wr => AppRel w g M B s f l b vs0 ao n c sl wr) (fun sl _ => match sl with | .slice _ m _ => m | _ => 0)
  case atStart => exact ⟨0, ao, vs0, Nat.zero_le _, rfl, fun hq => by
    obtain ⟨bb, oo, e, _⟩ := HX.out.rb 0 (by rw [HN.out trivial]; exact hq)
    exact ⟨bb, oo, e, e⟩, by rw [List.take_zero, List.append_nil]; exact HH.out, fun v hv k hk => .inl ⟨v, hv, hk⟩, Kept.refl _ _⟩
  case round =>
    obtain ⟨q, ad, vs, hq, rfl, had, ht, hro, hk⟩ := hrel
    have HT := Lib.hid ht; have HRO := Lib.hid hro; have HK := Lib.hid hk
    clear hro hk
    by_cases hlt : q < n
    · obtain ⟨bb, oo, hao, rfl⟩ := had hlt
      have HAO := Lib.hid (fun _ : True => hao)
      clear hao
      obtain ⟨L, hL⟩ : ∃ L, l ++ b.take q = L := ⟨_, rfl⟩
      obtain ⟨m, hm⟩ : ∃ m, L.length = m := ⟨_, rfl⟩
      have hml : m = l.length + q := by rw [← hm, ← hL, List.length_append, List.length_take, HN.out trivial]; omega
      rw [hL] at ht HT
      obtain ⟨e, he⟩ : ∃ e, f * s + m = e := ⟨_, rfl⟩
      obtain ⟨k, hk⟩ : ∃ k, f + m / s = k := ⟨_, rfl⟩
      obtain ⟨room, hroom⟩ : ∃ r, s - m % s = r := ⟨_, rfl⟩
      obtain ⟨p, hp⟩ : ∃ p, (k + 1) * s = p := ⟨_, rfl⟩
      obtain ⟨rem, hrem⟩ : ∃ r, n - q = r := ⟨_, rfl⟩
      obtain ⟨cc, hcc⟩ : ∃ r, c - q = r := ⟨_, rfl⟩
      obtain ⟨x, hx⟩ : ∃ x, min rem room = x := ⟨_, rfl⟩
      have hmod := Nat.mod_lt m (show s > 0 by omega)
      have hpe : p = e + room := by rw [← hp, ← hk, ← he, ← hroom]; exact seg_room f s m (by omega)
      have hkd : e / s = k := by rw [← he, ← hk]; exact seg_next f s m (by omega)
      have hbig := HBIG.out
      have hke : k ≤ e := by rw [← hkd]; exact Nat.div_le_self _ _
      have b1 := ht.box.cell 1 rfl
      have b3 := ht.box.cell 3 rfl
      have b0 := ht.box.cell 0 rfl
      rw [hm, he] at b3
      have q1 : (e : Int).tdiv (s : Int) = (k : Int) := by rw [← hkd]; rfl
      have q2 : ((s : Int) == 0) = false := by rw [beq_eq_false_iff_ne]; omega
      have q3 : ¬ s = 0 := by omega
      have q4 : ((k : Int) + 1) * (s : Int) = (p : Int) := by rw [← hp]; push_cast; rfl
      have q5 : (p : Int) - (e : Int) = (room : Int) := by omega
      have q6 := min_i64n rem (room : Int) x (by omega)
      have q7 : IntKind.i64.wrap (k : Int) = (k : Int) := by rw [IntKind.wrap_i64]; omega
      have i1 : (rem : Int) > 0 := by omega
      have HQ := Lib.hid (fun _ : True => And.intro hm (And.intro hml (And.intro he (And.intro hk (And.intro hroom (And.intro hrem (And.intro hcc (And.intro hx (And.intro hL (And.intro hke hpe))))))))))
      have hpb : p ≤ 4398046511104 := by omega
      have heb : e ≤ 2199023255552 := by omega
      have hkb : k ≤ 2199023255552 := by omega
      rw [hrem, hcc]
      clear hm hml he hk hp hroom hrem hcc hx hL hkd hke hpe hbig had ht hmod
      go_wp2_with fail
      go_quiet (fail)
      go_wp2_with fail
      go_quiet (fail)
      go_wp2_with fail
      generalize hw1 : (wr.drewN _).drewN _ = w1
      have hg1 : wr.grownBy w1 none := by rw [← hw1]; exact grown_trans (grown_drewN _ _) (grown_drewN _ _)
      have ht := HT.out.grown hg1
      have HT1 := Lib.hid ht
      have HG1 := Lib.hid hg1
      have hrx := HX.out.kept (HK.out.trans (Kept.of_grown hg1))
      have b0 := ht.box.cell 0 rfl
      obtain ⟨hm, hml, he, hk, hroom, hrem, hcc, hx, hL, hke, hpe⟩ := HQ.out trivial
      obtain ⟨src, hsrc⟩ : ∃ S, (b.drop q).take x = S := ⟨_, rfl⟩
      have hsl : src.length = x := by rw [← hsrc, List.length_take, List.length_drop, HN.out trivial]; omega
      have hrb : RB w1 (some ⟨bb, oo + q, none⟩) src := by
        rw [← hsrc]
        refine RB.take ?_ x
        intro j hj
        rw [List.length_drop] at hj
        obtain ⟨b', o', e', hc⟩ := hrx.rb (q + j) (by omega)
        rw [HAO.out trivial] at e'
        cases e'
        exact ⟨bb, oo + q, rfl, by rw [List.getElem_drop, Nat.add_assoc]; exact hc⟩
      have hL2 : l ++ b.take (q + x) = L ++ src := by rw [← hL, ← hsrc, List.append_assoc, List.take_add]
      have HRB := Lib.hid hrb
      have HSL := Lib.hid (fun _ : True => hsl)
      have HL2 := Lib.hid (fun _ : True => hL2)
      have hmod := Nat.mod_lt m (show s > 0 by omega)
      have hx1 : 1 ≤ x ∧ x ≤ rem ∧ x ≤ room := by omega
      have j1 : (x : Int) ≤ (cc : Int) := by omega
      have j2 : (x : Int) ≤ (rem : Int) := by omega
      have j0 : (0 : Int) ≤ (x : Int) := by omega
      have HXB := Lib.hid (show x ≤ 4096 by omega)
      clear b1 b3 q1 q4 q5 q6 q7 i1 hw1 hg1 ht hrx hsrc hsl hrb hL2 hpe hke
      by_cases hfull : m % s = 0
      · have hvl : vs.length = m / s := by rw [HT.out.len, hm, nSeg_full (by omega) hfull]
        have hkk : ((f + vs.length : Nat) : Int) = (k : Int) := by rw [hvl, hk]
        have HNK := Lib.hid (show ∀ z ∈ ents f vs, z.1 ≠ (k : Int) from fun z hz e => by have := (ents_key f vs z hz).2; omega)
        have hlk := (HT1.out.map.drew).miss HNK.out
        have HPUSH := Lib.hid (fun (v' : Value) (wa wb : World) (hoA : OwnB wa B v' src) (hgA : w1.drew.grownBy wa none) (hlA : ∀ k, v'.ownBlock = some k → (Value.slice none 0 0).ownBlock = some k ∨ w1.drew.heap.size ≤ k) (hmb : MapI wb M (ents f vs ++ [((k : Int), v')])) (hgb : wa.grownBy wb (some M)) =>
          TapeIs.push HT1.out (by rw [hm]; exact hfull) (by rw [HSL.out trivial]; omega) (grown_drew1 w1) hoA hgA (fun k e => (hlA k e).resolve_left (by simp [Value.ownBlock])) (by rw [hkk]; exact hmb) hgb)
        rw [hm, he, HSL.out trivial] at HPUSH
        clear hm hml he hk hroom hrem hcc hx hL hvl hkk hfull
        go_region_law (first
          | (refine step_append_bytes2 rfl _ _ rfl B (.slice none 0 0) [] rfl (OwnB.nil _ _) _ _ _ src rfl HRB.out.drew (HSL.out trivial) (by have := HXB.out; simp; omega) (Nat.le_trans HB.out (Nat.le_trans HK.out.size (grown_drew HG1.out).size)) ?_
             intro v' wa hoA hgA hlA
             have ba := (HT1.out.box.drew.kept hgA (by simp [Value.ownBlock])).cell 0 rfl
             obtain ⟨wb, hrun, hmb, hgb⟩ := ((HT1.out.map.drew).kept hgA (by simp [Value.ownBlock])).push HNK.out v'))
        all_goals (
          obtain ⟨hbx, htp⟩ := HPUSH.out v' wa wb hoA hgA hlA hmb hgb
          have HK2 := Lib.hid (show Kept (TX g M vs0) w (wb.setCell ⟨g, 3, none⟩ (.int .i64 ((e + x : Nat) : Int))) from
            ((((HK.out.rowB HG1.out (fun _ h => by simp at h)).rowB (grown_drew1 w1) (fun _ h => by simp at h)).rowB hgA (fun _ h => by simp [Value.ownBlock] at h)).rowB hgb (fun z h => by cases h; exact .inl (.inr (.inl rfl)))).rowB (grown_setCell wb g 3 _) (fun z h => by cases h; exact .inl (.inl rfl)))
          have HRO2 := Lib.hid (show RowsOf w.heap.size vs0 (vs ++ [v']) from fun u hu z hz => by
            rcases List.mem_append.1 hu with hu | hu
            · exact HRO.out u hu z hz
            · rw [List.mem_singleton] at hu
              subst hu
              refine .inr ?_
              have h1 := (hlA z hz).resolve_left (by simp [Value.ownBlock])
              have h2 := (HK.out.rowB HG1.out (fun _ h => by simp at h)).size
              have h3 := (grown_drew1 w1).size
              omega)
          have c3 : wb.cell? ⟨g, 3, none⟩ = some (.int .i64 (e : Int)) := hbx.cell 3 rfl
          have f3 := hbx.open
          obtain ⟨e2, he2⟩ : ∃ e2, e + x = e2 := ⟨_, rfl⟩
          have q8 : (e : Int) + (x : Int) = (e2 : Int) := by omega
          have hx4 := HXB.out
          have hb2 : e2 ≤ 4398046511104 := by omega
          rw [he2] at htp HK2
          have HTP := Lib.hid htp
          clear he2
          clear hbx htp hoA hgA hlA hmb hgb hlk ba hrun b0 HPUSH
          go_wp2_with fail
          obtain ⟨hm, hml, he, hk, hroom, hrem, hcc, hx, hL, hke, hpe⟩ := HQ.out trivial
          refine ⟨⟨q + x, _, vs ++ [v'], by omega, by rw [show n - (q + x) = rem - x by omega, show c - (q + x) = cc - x by omega], fun hqx => ⟨bb, oo, HAO.out trivial, ?_⟩, ?_, HRO2.out, HK2.out⟩, ?_⟩
          · rw [if_neg (by omega), Nat.add_assoc]
          · rw [HL2.out trivial]
            exact HTP.out
          · show rem - x < rem
            omega)
      · have hvl : vs.length = m / s + 1 := by rw [HT.out.len, hm, nSeg_part (by omega) hfull]
        obtain ⟨i, hi⟩ : ∃ i, m / s = i := ⟨_, rfl⟩
        have hiv : i < vs.length := by omega
        have hkk : ((f + i : Nat) : Int) = (k : Int) := by rw [← hi, hk]
        have hent : (ents f vs)[i]? = some ((k : Int), vs[i]) := by rw [ents_get, List.getElem?_eq_getElem hiv, ← hkk]; rfl
        obtain ⟨v, hv⟩ : ∃ v, vs[i] = v := ⟨_, rfl⟩
        have hown := HT1.out.own i hiv
        have hvmem : v ∈ vs := by rw [← hv]; exact List.getElem_mem hiv
        rw [hv] at hent hown
        have hlk := (HT1.out.map.drew).look hent
        have HENT := Lib.hid (fun _ : True => hent)
        have hsgl : (segOf s L i).length ≤ 4096 := by unfold segOf; rw [List.length_take]; omega
        have HSG := Lib.hid hsgl
        have HOWN := Lib.hid hown
        have hrl := fun z hz => HRO.out v hvmem z hz
        have HRL := Lib.hid hrl
        have hvg : v.ownBlock ≠ some g := fun e => by have h1 := (hown.lt _ e).1; have h2 := HT1.out.lo.1; omega
        have hvM : v.ownBlock ≠ some M := fun e => by have h1 := (hown.lt _ e).1; have h2 := HT1.out.lo.2.1; omega
        have HVG := Lib.hid (And.intro hvg hvM)
        have HPUSH := Lib.hid (fun (v' : Value) (wa wb : World) (hoA : OwnB wa B v' (segOf s L i ++ src)) (hgA : w1.drew.grownBy wa v.ownBlock) (hlA : ∀ k, v'.ownBlock = some k → v.ownBlock = some k ∨ w1.drew.heap.size ≤ k) (hmb : MapI wb M ((ents f vs).set i ((k : Int), v'))) (hgb : wa.grownBy wb (some M)) =>
          TapeIs.fill (v := v') HT1.out (by rw [hm]; exact hfull) (by rw [hm]; exact hi.symm) hiv (by rw [HSL.out trivial, hm, hroom]; omega) (grown_drew1 w1) hoA (by rw [hv]; exact hgA) (by rw [hv]; exact hlA) (by rw [hkk]; exact hmb) hgb)
        rw [hm, he, HSL.out trivial] at HPUSH
        have HVL := Lib.hid hiv
        clear hm hml he hk hroom hrem hcc hx hL hvl hkk hfull hi hent hown hsgl hrl hvg hvM hvmem hv hiv
        go_region_law (first
          | (refine step_append_bytes2 rfl _ _ rfl B v (segOf s L i) rfl HOWN.out.drew _ _ _ src rfl HRB.out.drew (HSL.out trivial) (by have := HXB.out; have := HSG.out; omega) (Nat.le_trans HB.out (Nat.le_trans HK.out.size (grown_drew HG1.out).size)) ?_
             intro v' wa hoA hgA hlA
             have ba := (HT1.out.box.drew.kept hgA HVG.out.1).cell 0 rfl
             obtain ⟨wb, hrun, hmb, hgb⟩ := ((HT1.out.map.drew).kept hgA HVG.out.2).set (HENT.out trivial) v'))
        all_goals (
          obtain ⟨hbx, htp⟩ := HPUSH.out v' wa wb hoA hgA hlA hmb hgb
          have HK2 := Lib.hid (show Kept (TX g M vs0) w (wb.setCell ⟨g, 3, none⟩ (.int .i64 ((e + x : Nat) : Int))) from
            ((((HK.out.rowB HG1.out (fun _ h => by simp at h)).rowB (grown_drew1 w1) (fun _ h => by simp at h)).rowB hgA (fun z hz => (HRL.out z hz).imp (fun h => .inr (.inr h)) id)).rowB hgb (fun z h => by cases h; exact .inl (.inr (.inl rfl)))).rowB (grown_setCell wb g 3 _) (fun z h => by cases h; exact .inl (.inl rfl)))
          have HRO2 := Lib.hid (show RowsOf w.heap.size vs0 (vs.set i v') from fun u hu z hz => by
            rcases List.mem_or_eq_of_mem_set hu with hu | rfl
            · exact HRO.out u hu z hz
            · rcases hlA z hz with h1 | h1
              · exact HRL.out z h1
              · refine .inr ?_
                have h2 := (HK.out.rowB HG1.out (fun _ h => by simp at h)).size
                have h3 := (grown_drew1 w1).size
                omega)
          have c3 : wb.cell? ⟨g, 3, none⟩ = some (.int .i64 (e : Int)) := hbx.cell 3 rfl
          have f3 := hbx.open
          obtain ⟨e2, he2⟩ : ∃ e2, e + x = e2 := ⟨_, rfl⟩
          have q8 : (e : Int) + (x : Int) = (e2 : Int) := by omega
          have hx4 := HXB.out
          have hb2 : e2 ≤ 4398046511104 := by omega
          rw [he2] at htp HK2
          have HTP := Lib.hid htp
          clear he2
          clear hbx htp hoA hgA hlA hmb hgb hlk ba hrun b0 HPUSH
          go_wp2_with fail
          obtain ⟨hm, hml, he, hk, hroom, hrem, hcc, hx, hL, hke, hpe⟩ := HQ.out trivial
          refine ⟨⟨q + x, _, vs.set i v', by omega, by rw [show n - (q + x) = rem - x by omega, show c - (q + x) = cc - x by omega], fun hqx => ⟨bb, oo, HAO.out trivial, ?_⟩, ?_, HRO2.out, HK2.out⟩, ?_⟩
          · rw [if_neg (by omega), Nat.add_assoc]
          · rw [HL2.out trivial]
            exact HTP.out
          · show rem - x < rem
            omega)
    · obtain rfl : q = n := by omega
      clear had ht
      have i1 : ¬ (((q - q : Nat) : Int) > 0) := by omega
      go_wp2_with fail
      go_end0
      exact ⟨rfl, vs, by have e := HT.out; rw [List.take_of_length_le (by rw [HN.out trivial]; exact Nat.le_refl _)] at e; exact e, HRO.out, HK.out⟩

end Go.Proofs.Ytkemocbifancfaa
