/-
  The document's 'With' and 'Crash'; an act, done by the document.
-/
import Derived.Test.YtkemocbifancfaaDDocB
import Derived.Deep.DeepCutAuto
namespace Go.Proofs.Ytkemocbifancfaa
open Go.RowKit
set_option maxRecDepth 100000

def RefWPost (w : World) (X : Nat → Prop) (nb sz N s : Nat) (S : FaceV) (T : List WriteV) (most : Nat) (e : Int) (r : Ending) (w' : World) : Prop :=
  ∃ va vc ta tn tc qa qn qc loc, r = .returned (.tuple #[.agg #[.slice va nb vc, .int .i64 (sz : Int), .slice ta tn tc, .int .i64 ((S.f * s : Nat) : Int), .int .i64 (s : Int), .slice qa qn qc, .int .i64 (most : Int)], .int .i64 e]) ∧ RefDisk w' X nb sz N s S T va vc ta tn tc qa qn qc loc ∧ w.grownBy w' none
theorem three_boxes (w : World) (T4 T5 T6 : TypeId) (c4 c5 c6 : List Value) : ∃ w1, (((w.alloc (.cells c4.toArray T4)).alloc (.cells c5.toArray T5)).alloc (.cells c6.toArray T6)) = w1 ∧ w.grownBy w1 none ∧ w1.heap.size = w.heap.size + 3 ∧
    Box w1 w.heap.size T4 c4 ∧ Box w1 (w.heap.size + 1) T5 c5 ∧ Box w1 (w.heap.size + 2) T6 c6 :=
  ⟨_, rfl, growA _ _ (growA _ _ (growA _ _ (World.grownBy.refl _ _))), by simp,
    ((Box.new w T4 c4 _ rfl).alloc _).alloc _, (Box.new _ T5 c5 _ (by simp)).alloc _, Box.new _ T6 c6 _ (by simp)⟩
theorem info_rwrite : (Try.prog.info? 86).map (fun i => (i.zero, i.size, i.bytes)) = some (some (.agg #[.int .i64 0, .int .i64 0, .slice none 0 0, .int .i64 0]), 4, 48) := by kernel_rfl
theorem rw_one (W : WriteV) (x : Loc) : ∀ u ∈ wCells W x, u.oneCell' = true := fun u hu => by
  simp only [wCells, List.mem_cons, List.not_mem_nil, or_false] at hu
  rcases hu with rfl | rfl | rfl | rfl <;> rfl
theorem OwnR.base0' {w : World} {B : Nat} {T : TypeId} {k : Nat} {v : Value} {L : List (List Value)} (h : OwnR w B T k v L) : OwnR w 0 T k v L := h.base0
theorem RefDisk.snoc {w w5 : World} {Z : Nat → Prop} {nb sz N s : Nat} {S : FaceV} {T : List WriteV} {va : Option Addr} {vc : Nat} {ta : Option Addr} {tn tc : Nat} {qa : Option Addr} {qn qc : Nat} {loc : List Loc} (h : RefDisk w Z nb sz N s S T va vc ta tn tc qa qn qc loc) {W : WriteV} {xa : Option Addr} {xn xc : Nat} (hx : InB w xa xn xc W.b) (hxr : RX w Z xa W.b) (hn : -9223372036854775808 ≤ W.n) (hk : 0 ≤ W.k ∧ W.k ≤ 3) (hg : w.grownBy w5 none) {B g cap : Nat} (ho : OwnR w5 B 86 4 (.slice (some ⟨g, 0, none⟩) (qn + 1) cap) (todoCells T loc ++ [wCells W (xa, xn, xc)])) (hz : ¬ Z g) :
    RefDisk w5 Z nb sz N s S (T ++ [W]) va vc ta tn tc (some ⟨g, 0, none⟩) (qn + 1) cap (loc ++ [(xa, xn, xc)]) := by
  refine ⟨h.face.grown hg, ?_, fun k e => ?_, ?_, ?_, fun q h1 h2 => ?_, fun V hV => ?_, fun e => by omega⟩
  · rw [todo_snoc _ _ h.lens]
    exact ho.base0
  · have e2 : g = k := by simpa [Value.ownBlock] using e
    exact e2 ▸ hz
  · rw [List.length_append, h.len]; rfl
  · rw [List.length_append, List.length_append, h.lens]; rfl
  · rw [List.length_append, List.length_singleton] at h1
    by_cases hq : q < T.length
    · have l := (h.locs q hq (by rw [h.lens]; exact hq)).keptX (Kept.of_grown (X := Z) hg) (fun _ e => .inl e)
      simp only [List.getElem_append_left hq, List.getElem_append_left (show q < loc.length by rw [h.lens]; exact hq)]
      exact l
    · obtain rfl : q = T.length := by omega
      have e1 : (T ++ [W])[T.length] = W := by simp
      have e2 : (loc ++ [(xa, xn, xc)])[T.length]'(by rw [List.length_append, h.lens, List.length_singleton]; omega) = (xa, xn, xc) := by
        rw [List.getElem_append_right (by rw [h.lens]; exact Nat.le_refl _)]
        simp
      simp only [e1, e2]
      exact ⟨hx.grown hg, hxr.kept (Kept.of_grown hg), hn⟩
  · rcases List.mem_append.1 hV with e | e
    · exact h.kinds V e
    · rw [List.mem_singleton] at e
      subst e
      exact hk
theorem refw_back {w w3 w4 : World} {X : Nat → Prop} {p nb sz N s most : Nat} {S : FaceV} {T : List WriteV} {e : Int} {T' : List WriteV} {E : Int} {va : Option Addr} {vc : Nat} {ta : Option Addr} {tn tc : Nat} {qa : Option Addr} {qn qc : Nat} {loc : List Loc} (h : RefDisk w3 (fun k => X k ∨ k = p) nb sz N s S T va vc ta tn tc qa qn qc loc) (hg : w.grownBy w3 none) (hp : w.heap.size ≤ p) (hk : Kept (fun k => k = p) w3 w4) (hE : E = e ∧ T' = T) :
    RefWPost w X nb sz N s S T' most E (.returned (.tuple #[.agg #[.slice va nb vc, .int .i64 (sz : Int), .slice ta tn tc, .int .i64 ((S.f * s : Nat) : Int), .int .i64 (s : Int), .slice qa qn qc, .int .i64 (most : Int)], .int .i64 e])) w4 := by
  rw [hE.1, hE.2]
  exact ⟨va, vc, ta, tn, tc, qa, qn, qc, loc, rfl, (h.kept (hk.more (fun k e => .inr e))).more (fun k e => .inl (.inl e)), Kept.own hg hk (fun k e => by rw [e]; exact hp)⟩
theorem refw_fin {w wq w5 w6 : World} {X : Nat → Prop} {p nb sz N s most : Nat} {S : FaceV} {T : List WriteV} {T' : List WriteV} {E : Int} {W : WriteV} {va : Option Addr} {vc : Nat} {ta : Option Addr} {tn tc : Nat} {qa : Option Addr} {qn qc : Nat} {loc : List Loc} (h : RefDisk wq (fun k => X k ∨ k = p) nb sz N s S T va vc ta tn tc qa qn qc loc) (hg : w.grownBy wq none) {xa : Option Addr} {xn xc : Nat} (hx : InB wq xa xn xc W.b) (hxr : RX wq (fun k => X k ∨ k = p) xa W.b) (hn : -9223372036854775808 ≤ W.n) (hk : 0 ≤ W.k ∧ W.k ≤ 3) (hg5 : wq.grownBy w5 none) {B g cap : Nat} (ho : OwnR w5 B 86 4 (.slice (some ⟨g, 0, none⟩) (qn + 1) cap) (todoCells T loc ++ [wCells W (xa, xn, xc)])) (hz : ¬ (X g ∨ g = p)) (hp : w.heap.size ≤ p) (hk6 : Kept (fun k => k = p) w5 w6) (hE : E = 0 ∧ T' = T ++ [W]) :
    RefWPost w X nb sz N s S T' most E (.returned (.tuple #[.agg #[.slice va nb vc, .int .i64 (sz : Int), .slice ta tn tc, .int .i64 ((S.f * s : Nat) : Int), .int .i64 (s : Int), .slice (some ⟨g, 0, none⟩) (qn + 1) cap, .int .i64 (most : Int)], .int .i64 0])) w6 := by
  rw [hE.1, hE.2]
  exact ⟨va, vc, ta, tn, tc, _, _, _, _, rfl, ((h.snoc hx hxr hn hk hg5 ho hz).kept (hk6.more (fun k e => .inr e))).more (fun k e => .inl (.inl e)), Kept.own (grown_trans hg hg5) hk6 (fun k e => by rw [e]; exact hp)⟩
theorem int_cases (E : Int) : E = 0 ∨ ((E == (0 : Int)) = false ∧ decide (E = 0) = false ∧ ¬ E = 0) := by
  by_cases h : E = 0
  · exact .inl h
  · exact .inr ⟨by simpa using h, by simpa using h, h⟩
theorem tearV_err (nb sz : Nat) (L : List UInt8) (i : Int) (b : List UInt8) (n : Int) : (tearV nb sz L i b n).2 = putE nb sz i b.length := by
  unfold tearV putE
  split
  · rfl
  · split
    · rfl
    · rfl
section
variable {w : World} {X : Nat → Prop} {nb sz N s most : Nat} {S : FaceV} {T : List WriteV} {va : Option Addr} {vc : Nat} {ta : Option Addr} {tn tc : Nat} {qa : Option Addr} {qn qc : Nat} {loc : List Loc} (h : RefDisk w X nb sz N s S T va vc ta tn tc qa qn qc loc) (hX : ∀ k, w.heap.size ≤ k → ¬ X k) (i m : Int) (b : List UInt8) (xa : Option Addr) (xn xc : Nat) (hx : InB w xa xn xc b) (hxr : RX w X xa b) (hm : -9223372036854775808 ≤ m) (hT : T.length ≤ 1000) (hbig : endV s S + totB T ≤ 1000000000) (hxn : xn ≤ 1000000)
set_option maxHeartbeats 3200000 in
include h hX hx hxr hm hT hbig in
theorem ref_with_put  :
    Calls Try.prog 45 #[.agg #[.slice va nb vc, .int .i64 (sz : Int), .slice ta tn tc, .int .i64 ((S.f * s : Nat) : Int), .int .i64 (s : Int), .slice qa qn qc, .int .i64 (most : Int)], .agg #[.int .i64 0, .int .i64 i, .slice xa xn xc, .int .i64 m]] w (RefWPost w X nb sz N s S (if putE nb sz i b.length = 0 then T ++ [⟨0, i, b, m⟩] else T) most (putE nb sz i b.length)) := by
  obtain ⟨w1, hw1, hg1, hs1, b2, b3, b4⟩ := three_boxes w 53 86 53 [.slice va nb vc, .int .i64 (sz : Int), .slice ta tn tc, .int .i64 ((S.f * s : Nat) : Int), .int .i64 (s : Int), .slice qa qn qc, .int .i64 (most : Int)] [.int .i64 0, .int .i64 i, .slice xa xn xc, .int .i64 m] [.slice none 0 0, .int .i64 0, .slice none 0 0, .int .i64 0, .int .i64 0, .slice none 0 0, .int .i64 0]
  have h1 := (h.more (Y := fun k => X k ∨ k = w.heap.size + 2) (fun k e => e.imp id (fun e => by omega))).grown hg1
  have hZ : ∀ k, w1.heap.size ≤ k → ¬ (X k ∨ k = w.heap.size + 2) := fun k hk e => by
    rcases e with e | e
    · exact hX k (by omega) e
    · omega
  have hc := ref_seen h1 hZ most hT (by omega)
  have hs : 1 ≤ s := by have := h.face.seg; omega
  have hend := seenV_end nb sz s hs T S
  obtain ⟨R, hR⟩ : ∃ R, seenV nb sz s S T = R := ⟨_, rfl⟩
  rw [hR] at hc hend
  have HEND := Lib.hid hend
  have HRR := Lib.hid (fun _ : True => hR)
  have HZ := Lib.hid hZ
  have H1 := Lib.hid h1
  have HG := Lib.hid hg1
  have HLT := Lib.hid (fun _ : True => h.len)
  have HZR := Lib.hid h.zero
  have hqn : qn ≤ 1000 := by rw [← h.len]; exact hT
  have HX := Lib.hid (hx.grown hg1)
  have HXR := Lib.hid (show RX w1 (fun k => X k ∨ k = w.heap.size + 2) xa b from (hxr.more (fun k e => e.imp id (fun e => by omega))).kept (Kept.of_grown hg1))
  obtain ⟨Fs, hFs⟩ : ∃ Fs, S.f * s = Fs := ⟨_, rfl⟩
  rw [hFs] at b2 hw1 hc ⊢
  have HC := Lib.hid hc
  have HFs := Lib.hid (fun _ : True => hFs)
  have HW := Lib.hid (fun _ : True => hw1)
  have B2 := Lib.hid b2; have B3 := Lib.hid b3; have B4 := Lib.hid b4
  have HM := Lib.hid hm; have HBG := Lib.hid hbig
  have y2 := b2.look
  clear h hX hx hxr hm hT hbig hw1 hg1 hs1 b2 b3 b4 h1 hZ hs hFs hc hR hend
  obtain ⟨T', hT'⟩ : ∃ T', (if putE nb sz i b.length = 0 then T ++ [⟨0, i, b, m⟩] else T) = T' := ⟨_, rfl⟩
  obtain ⟨E', hE'⟩ : ∃ E' : Int, (putE nb sz i b.length) = E' := ⟨_, rfl⟩
  rw [hT', hE']
  have HTE := Lib.hid (fun _ : True => And.intro hT' hE')
  clear hT' hE'
  go_enter Try.func45, Try.ntmps45
  go_wp2_with fail
  rw [HW.out trivial]
  go_wp2_with fail
  refine HC.out.mono ?_
  rintro r w2 ⟨va2, vc2, ta2, tn2, tc2, rfl, hf, hg2⟩
  obtain ⟨Gs, hGs⟩ : ∃ Gs, R.f * s = Gs := ⟨_, rfl⟩
  rw [hGs]
  obtain ⟨w3, hw3, hg3, hs3, b6, b7⟩ := two_boxes w2 48 50 [.slice va2 nb vc2, .int .i64 (sz : Int)] [.slice ta2 tn2 tc2, .int .i64 (Gs : Int), .int .i64 (s : Int)]
  have HW3 := Lib.hid (fun _ : True => hw3)
  have HF := Lib.hid (hf.grown hg3)
  have HG13 := Lib.hid (grown_trans hg2 hg3)
  have B6 := Lib.hid b6; have B7 := Lib.hid b7
  have y6 := b6.look
  have y7 := b7.look
  have y2 := (B2.out.grown HG13.out).look
  have y3 := (B3.out.grown HG13.out).look
  have y3e := (B3.out.grown HG13.out).look
  rw [← hw3] at y3e
  have y4 := (B4.out.grown HG13.out).look
  have o4 := (B4.out.grown HG13.out).open
  have SI := set_idx
  have SF := set_far
  clear hf hg2 hg3 hw3 hs3 b6 b7 HC hGs
  go_upto_if 18 with (fail)
  rw [HW3.out trivial]
  clear y3e
  obtain ⟨bs, hv, hmt⟩ := HF.out.vol
  have hbl := hmt.1
  have hput := refv_put_any hv (fun k hk => HZ.out k (Nat.le_trans HG13.out.size hk)) i xa xn xc b (HX.out.grown HG13.out).len_eq (HX.out.grown HG13.out).reads (by rw [hbl]; exact HF.out.nb_le) HF.out.sz_le
  have htm := (tear_match HF.out.mul HF.out.len hmt i b sz).2
  have htl := (tear_match HF.out.mul HF.out.len hmt i b sz).1.1
  rw [tearV_err] at htm
  obtain ⟨Q, hQ⟩ : ∃ Q, refTear sz bs i b sz = Q := ⟨_, rfl⟩
  rw [hQ] at hput htm htl
  unfold RefTearPost at hput
  rw [htm, (HTE.out trivial).2] at hput
  have HEC := Lib.hid (int_cases E')
  have HPT := Lib.hid hput; have HTL := Lib.hid htl
  clear hv hmt hbl hput htm hQ htl
  go_wp2_with fail
  refine HPT.out.mono ?_
  rintro r w4 ⟨v, rfl, hv2, hg4⟩
  obtain ⟨a', c', rfl⟩ := hv2.open
  rw [HTL.out] at hv2 ⊢
  have hga := World.grownBy_alloc w4 (.cells #[.slice a' nb c', .int .i64 (sz : Int)] 48) none
  obtain ⟨wq, hwq⟩ : ∃ u, w4.alloc (.cells #[.slice a' nb c', .int .i64 (sz : Int)] 48) = u := ⟨_, rfl⟩
  rw [hwq] at hga
  have HWQ := Lib.hid (fun _ : True => hwq)
  have HGQ := Lib.hid (grown_trans HG13.out (grown_trans hg4 hga))
  have y2 := (B2.out.grown HGQ.out).look
  have y3 := (B3.out.grown HGQ.out).look
  have y4 := (B4.out.grown HGQ.out).look
  have o4 := (B4.out.grown HGQ.out).open
  clear hv2 hg4 hga hwq HPT
  go_upto_if 29 with (fail)
  rw [HWQ.out trivial]
  rcases HEC.out with rfl | ⟨e1, e2, e3⟩
  · have HLQ := Lib.hid (fun _ : True => trivial)
    by_cases hq0 : qn = 0
    · obtain ⟨rfl, rfl⟩ := HZR.out hq0
      subst hq0
      have HT0 := Lib.hid (fun _ : True => List.eq_nil_of_length_eq_zero (HLT.out trivial))
      obtain ⟨ii, hii, _⟩ := info_parts info_rwrite
      go_wp2_with (first
        | (at_builtin; refine wpList_append_own_none (o := ⟨some 54, _, _, _, _, _⟩) rfl _ _ 51 rfl 0 86 ii 4 Try.underlying51 hii (.slice none 0 0) 0 [] rfl (World.ownsRow_nil _ _ _ _) rfl ?_)
        | (at_builtin
           refine wpList_append_elem (o := ⟨some 58, _, _, _, _, _⟩) rfl _ _ 51 86 rfl Try.underlying51 _ 4 48 info_rwrite rfl (by decide) (base := wq.heap.size) (L := []) (OwnR.nil _ _ _ _) rfl (heap_new_at _ _ _ (by simp)) rfl rfl (rw_one ⟨0, i, b, m⟩ (xa, xn, xc)) (by simp) (by simp) (by simp) ?_
           intro g2 cap2 w5 ho5 hg5 hk5
           have hge : wq.grownBy w5 none := grown_trans (World.grownBy_alloc wq (.cells #[.int .i64 0, .int .i64 i, .slice xa xn xc, .int .i64 m] 86) none) hg5
           have HGE := Lib.hid hge
           have HO5 := Lib.hid (show OwnR w5 wq.heap.size 86 4 (.slice (some ⟨g2, 0, none⟩) (0 + 1) cap2) (todoCells T loc ++ [wCells ⟨0, i, b, m⟩ (xa, xn, xc)]) from by rw [HT0.out trivial]; exact ho5)
           have HG2 := Lib.hid (ho5.lt g2 rfl).1
           have z2 := (B2.out.grown (grown_trans HGQ.out hge)).look
           have z4 := (B4.out.grown (grown_trans HGQ.out hge)).look
           have p4 := (B4.out.grown (grown_trans HGQ.out hge)).open
           clear ho5 hg5 hk5 hge))
      refine bodyPost_ret (v := .tuple #[.agg #[.slice va nb vc, .int .i64 (sz : Int), .slice ta tn tc, .int .i64 (Fs : Int), .int .i64 (s : Int), .slice (some ⟨g2, 0, none⟩) 1 cap2, .int .i64 (most : Int)], .int .i64 0]) ?_ rfl ?_
      · simp only [results]
        go_simp
      · rw [← HFs.out trivial]
        exact refw_fin (W := ⟨0, i, b, m⟩) (H1.out.grown HGQ.out) (grown_trans HG.out HGQ.out) (HX.out.grown HGQ.out) (HXR.out.kept (Kept.of_grown HGQ.out)) HM.out (by simp) HGE.out HO5.out (fun e => HZ.out _ (Nat.le_trans (HGQ.out).size HG2.out) e) (by omega) (by with_reducible (repeat (first | refine kset ?_ (by show _ = _; rfl) | refine kdrew ?_ | exact Kept.refl _ _))) ⟨rfl, by rw [← (HTE.out trivial).1, if_pos (HTE.out trivial).2]⟩
    · have hm0 : 0 < qn := by omega
      go_wp2_with (first
        | (at_builtin
           refine wpList_append_els (o := ⟨some 54, _, _, _, _, _⟩) (K := []) (base := wq.heap.size) rfl _ _ 51 86 rfl Try.underlying51 _ 4 48 info_rwrite rfl (by decide) (OwnR.nil _ _ _ _) rfl rfl ((H1.out.grown HGQ.out).todo.elems) (H1.out.todo.1) (todo_one T loc) (by rw [todo_len _ _ H1.out.lens]; exact HLT.out trivial) hm0 (by simp; omega) (by simp only [List.length_nil]; omega) (Nat.le_refl _) ?_
           intro g1 cap1 w4 ho4 hg4 hk4
           rw [List.length_nil, Nat.zero_add, List.nil_append] at ho4
           rw [List.length_nil, Nat.zero_add]
           have HG4 := Lib.hid (show wq.grownBy w4 none from hg4)
           have HO4 := Lib.hid ho4
           have z2 := (B2.out.grown (grown_trans HGQ.out HG4.out)).look
           have z3 := (B3.out.grown (grown_trans HGQ.out HG4.out)).look
           clear ho4 hg4 hk4)
        | (at_builtin
           refine wpList_append_elem (o := ⟨some 58, _, _, _, _, _⟩) rfl _ _ 51 86 rfl Try.underlying51 _ 4 48 info_rwrite rfl (by decide) (base := wq.heap.size) (HO4.out.grown (World.grownBy_alloc _ _ none)) rfl (heap_new_at _ _ _ (by simp)) rfl rfl (rw_one ⟨0, i, b, m⟩ (xa, xn, xc)) (by rw [todo_len _ _ H1.out.lens, HLT.out trivial]; omega) (by rw [todo_len _ _ H1.out.lens, HLT.out trivial]; omega) (Nat.le_trans HG4.out.size (World.grownBy_alloc _ _ none).size) ?_
           intro g2 cap2 w5 ho5 hg5 hk5
           rw [todo_len _ _ H1.out.lens, HLT.out trivial] at ho5 ⊢
           have hge : wq.grownBy w5 none := grown_new (grown_trans HG4.out (World.grownBy_alloc w4 (.cells #[.int .i64 0, .int .i64 i, .slice xa xn xc, .int .i64 m] 86) none)) (HO4.out.lt g1 rfl).1 hg5
           have HGE := Lib.hid hge
           have HO5 := Lib.hid ho5
           have HG2 := Lib.hid (ho5.lt g2 rfl).1
           have z2 := (B2.out.grown (grown_trans HGQ.out hge)).look
           have z4 := (B4.out.grown (grown_trans HGQ.out hge)).look
           have p4 := (B4.out.grown (grown_trans HGQ.out hge)).open
           clear ho5 hg5 hk5 hge))
      refine bodyPost_ret (v := .tuple #[.agg #[.slice va nb vc, .int .i64 (sz : Int), .slice ta tn tc, .int .i64 (Fs : Int), .int .i64 (s : Int), .slice (some ⟨g2, 0, none⟩) (qn + 1) cap2, .int .i64 (most : Int)], .int .i64 0]) ?_ rfl ?_
      · simp only [results]
        go_simp
      · rw [← HFs.out trivial]
        exact refw_fin (W := ⟨0, i, b, m⟩) (H1.out.grown HGQ.out) (grown_trans HG.out HGQ.out) (HX.out.grown HGQ.out) (HXR.out.kept (Kept.of_grown HGQ.out)) HM.out (by simp) HGE.out HO5.out (fun e => HZ.out _ (Nat.le_trans (HGQ.out).size HG2.out) e) (by omega) (by with_reducible (repeat (first | refine kset ?_ (by show _ = _; rfl) | refine kdrew ?_ | exact Kept.refl _ _))) ⟨rfl, by rw [← (HTE.out trivial).1, if_pos (HTE.out trivial).2]⟩
  · go_wp2_with fail
    refine bodyPost_ret (v := .tuple #[.agg #[.slice va nb vc, .int .i64 (sz : Int), .slice ta tn tc, .int .i64 (Fs : Int), .int .i64 (s : Int), .slice qa qn qc, .int .i64 (most : Int)], .int .i64 E']) ?_ rfl ?_
    · simp only [results]
      go_simp
    · rw [← HFs.out trivial]
      exact refw_back (H1.out.grown HGQ.out) (grown_trans HG.out HGQ.out) (by omega) (by with_reducible (repeat (first | refine kset ?_ (by show _ = _; rfl) | refine kdrew ?_ | exact Kept.refl _ _))) ⟨rfl, by rw [← (HTE.out trivial).1, if_neg (by rw [(HTE.out trivial).2]; exact e3)]⟩
set_option maxHeartbeats 3200000 in
include h hX hx hxr hm hT hbig hxn in
theorem ref_with_app  :
    Calls Try.prog 45 #[.agg #[.slice va nb vc, .int .i64 (sz : Int), .slice ta tn tc, .int .i64 ((S.f * s : Nat) : Int), .int .i64 (s : Int), .slice qa qn qc, .int .i64 (most : Int)], .agg #[.int .i64 1, .int .i64 i, .slice xa xn xc, .int .i64 m]] w (RefWPost w X nb sz N s S (if appE most b.length (seenV nb sz s S T).l.length = 0 then T ++ [⟨1, i, b, m⟩] else T) most (appE most b.length (seenV nb sz s S T).l.length)) := by
  obtain ⟨w1, hw1, hg1, hs1, b2, b3, b4⟩ := three_boxes w 53 86 53 [.slice va nb vc, .int .i64 (sz : Int), .slice ta tn tc, .int .i64 ((S.f * s : Nat) : Int), .int .i64 (s : Int), .slice qa qn qc, .int .i64 (most : Int)] [.int .i64 1, .int .i64 i, .slice xa xn xc, .int .i64 m] [.slice none 0 0, .int .i64 0, .slice none 0 0, .int .i64 0, .int .i64 0, .slice none 0 0, .int .i64 0]
  have h1 := (h.more (Y := fun k => X k ∨ k = w.heap.size + 2) (fun k e => e.imp id (fun e => by omega))).grown hg1
  have hZ : ∀ k, w1.heap.size ≤ k → ¬ (X k ∨ k = w.heap.size + 2) := fun k hk e => by
    rcases e with e | e
    · exact hX k (by omega) e
    · omega
  have hc := ref_seen h1 hZ most hT (by omega)
  have hs : 1 ≤ s := by have := h.face.seg; omega
  have hend := seenV_end nb sz s hs T S
  obtain ⟨R, hR⟩ : ∃ R, seenV nb sz s S T = R := ⟨_, rfl⟩
  rw [hR] at hc hend
  have HEND := Lib.hid hend
  have HRR := Lib.hid (fun _ : True => hR)
  have HZ := Lib.hid hZ
  have H1 := Lib.hid h1
  have HG := Lib.hid hg1
  have HLT := Lib.hid (fun _ : True => h.len)
  have HZR := Lib.hid h.zero
  have hqn : qn ≤ 1000 := by rw [← h.len]; exact hT
  have HX := Lib.hid (hx.grown hg1)
  have HXR := Lib.hid (show RX w1 (fun k => X k ∨ k = w.heap.size + 2) xa b from (hxr.more (fun k e => e.imp id (fun e => by omega))).kept (Kept.of_grown hg1))
  obtain ⟨Fs, hFs⟩ : ∃ Fs, S.f * s = Fs := ⟨_, rfl⟩
  rw [hFs] at b2 hw1 hc ⊢
  have HC := Lib.hid hc
  have HFs := Lib.hid (fun _ : True => hFs)
  have HW := Lib.hid (fun _ : True => hw1)
  have B2 := Lib.hid b2; have B3 := Lib.hid b3; have B4 := Lib.hid b4
  have HM := Lib.hid hm; have HBG := Lib.hid hbig
  have y2 := b2.look
  clear h hX hx hxr hm hT hbig hw1 hg1 hs1 b2 b3 b4 h1 hZ hs hFs hc hR hend
  obtain ⟨T', hT'⟩ : ∃ T', (if appE most b.length (seenV nb sz s S T).l.length = 0 then T ++ [⟨1, i, b, m⟩] else T) = T' := ⟨_, rfl⟩
  obtain ⟨E', hE'⟩ : ∃ E' : Int, (appE most b.length (seenV nb sz s S T).l.length) = E' := ⟨_, rfl⟩
  rw [hT', hE']
  have HTE := Lib.hid (fun _ : True => And.intro hT' hE')
  clear hT' hE'
  go_enter Try.func45, Try.ntmps45
  go_wp2_with fail
  rw [HW.out trivial]
  go_wp2_with fail
  refine HC.out.mono ?_
  rintro r w2 ⟨va2, vc2, ta2, tn2, tc2, rfl, hf, hg2⟩
  obtain ⟨Gs, hGs⟩ : ∃ Gs, R.f * s = Gs := ⟨_, rfl⟩
  rw [hGs]
  obtain ⟨w3, hw3, hg3, hs3, b6, b7⟩ := two_boxes w2 48 50 [.slice va2 nb vc2, .int .i64 (sz : Int)] [.slice ta2 tn2 tc2, .int .i64 (Gs : Int), .int .i64 (s : Int)]
  have HW3 := Lib.hid (fun _ : True => hw3)
  have HF := Lib.hid (hf.grown hg3)
  have HG13 := Lib.hid (grown_trans hg2 hg3)
  have B6 := Lib.hid b6; have B7 := Lib.hid b7
  have y6 := b6.look
  have y7 := b7.look
  have y2 := (B2.out.grown HG13.out).look
  have y3 := (B3.out.grown HG13.out).look
  have y3e := (B3.out.grown HG13.out).look
  rw [← hw3] at y3e
  have y4 := (B4.out.grown HG13.out).look
  have o4 := (B4.out.grown HG13.out).open
  have SI := set_idx
  have SF := set_far
  clear hf hg2 hg3 hw3 hs3 b6 b7 HC hGs
  go_upto_if 18 with (fail)
  rw [HW3.out trivial]
  clear y3e
  have happ := (HTE.out trivial).2
  have htp := (HTE.out trivial).1
  rw [HRR.out trivial, HF.out.tape.len, HX.out.len_eq] at happ htp
  have hbd : tn2 ≤ 1000000000 := by
    have h1 := HEND.out
    have h2 := HF.out.tape.len
    have h3 := HBG.out
    unfold endV at h1 h3
    omega
  have bw : IntKind.i64.wrap ((tn2 : Int) + (xn : Int)) = (tn2 : Int) + (xn : Int) := IntWalk.i64_in _ (by omega)
  have HTP := Lib.hid (fun _ : True => htp)
  by_cases c1 : (65536 : Int) < (xn : Int)
  · have e7 : appE most xn tn2 = 7 := if_pos (by omega)
    rw [e7] at happ htp
    subst happ
    have HTP := Lib.hid (fun _ : True => htp)
    clear htp e7 bw
    go_wp2_with fail
    refine bodyPost_ret (v := .tuple #[.agg #[.slice va nb vc, .int .i64 (sz : Int), .slice ta tn tc, .int .i64 (Fs : Int), .int .i64 (s : Int), .slice qa qn qc, .int .i64 (most : Int)], .int .i64 7]) ?_ rfl ?_
    · simp only [results]
      go_simp
    · rw [← HFs.out trivial]
      exact refw_back (H1.out.grown HG13.out) (grown_trans HG.out HG13.out) (by omega) (by with_reducible (repeat (first | refine kset ?_ (by show _ = _; rfl) | refine kdrew ?_ | exact Kept.refl _ _))) ⟨rfl, by rw [← HTP.out trivial]; rfl⟩
  · by_cases c2 : (most : Int) < (tn2 : Int) + (xn : Int)
    · have e7 : appE most xn tn2 = 4 := (if_neg (by omega)).trans (if_pos (by omega))
      rw [e7] at happ htp
      subst happ
      have HTP := Lib.hid (fun _ : True => htp)
      clear htp e7
      go_wp2_with fail
      refine bodyPost_ret (v := .tuple #[.agg #[.slice va nb vc, .int .i64 (sz : Int), .slice ta tn tc, .int .i64 (Fs : Int), .int .i64 (s : Int), .slice qa qn qc, .int .i64 (most : Int)], .int .i64 4]) ?_ rfl ?_
      · simp only [results]
        go_simp
      · rw [← HFs.out trivial]
        exact refw_back (H1.out.grown HG13.out) (grown_trans HG.out HG13.out) (by omega) (by with_reducible (repeat (first | refine kset ?_ (by show _ = _; rfl) | refine kdrew ?_ | exact Kept.refl _ _))) ⟨rfl, by rw [← HTP.out trivial]; rfl⟩
    · have e7 : appE most xn tn2 = 0 := (if_neg (by omega)).trans (if_neg (by omega))
      rw [e7] at happ htp
      subst happ
      have HTP := Lib.hid (fun _ : True => htp)
      have HLQ := Lib.hid (fun _ : True => trivial)
      clear htp e7
      by_cases hq0 : qn = 0
      · obtain ⟨rfl, rfl⟩ := HZR.out hq0
        subst hq0
        have HT0 := Lib.hid (fun _ : True => List.eq_nil_of_length_eq_zero (HLT.out trivial))
        obtain ⟨ii, hii, _⟩ := info_parts info_rwrite
        go_wp2_with (first
          | (at_builtin; refine wpList_append_own_none (o := ⟨some 54, _, _, _, _, _⟩) rfl _ _ 51 rfl 0 86 ii 4 Try.underlying51 hii (.slice none 0 0) 0 [] rfl (World.ownsRow_nil _ _ _ _) rfl ?_)
          | (at_builtin
             refine wpList_append_elem (o := ⟨some 58, _, _, _, _, _⟩) rfl _ _ 51 86 rfl Try.underlying51 _ 4 48 info_rwrite rfl (by decide) (base := w3.heap.size) (L := []) (OwnR.nil _ _ _ _) rfl (heap_new_at _ _ _ (by simp)) rfl rfl (rw_one ⟨1, i, b, m⟩ (xa, xn, xc)) (by simp) (by simp) (by simp) ?_
             intro g2 cap2 w5 ho5 hg5 hk5
             have hge : w3.grownBy w5 none := grown_trans (World.grownBy_alloc w3 (.cells #[.int .i64 1, .int .i64 i, .slice xa xn xc, .int .i64 m] 86) none) hg5
             have HGE := Lib.hid hge
             have HO5 := Lib.hid (show OwnR w5 w3.heap.size 86 4 (.slice (some ⟨g2, 0, none⟩) (0 + 1) cap2) (todoCells T loc ++ [wCells ⟨1, i, b, m⟩ (xa, xn, xc)]) from by rw [HT0.out trivial]; exact ho5)
             have HG2 := Lib.hid (ho5.lt g2 rfl).1
             have z2 := (B2.out.grown (grown_trans HG13.out hge)).look
             have z4 := (B4.out.grown (grown_trans HG13.out hge)).look
             have p4 := (B4.out.grown (grown_trans HG13.out hge)).open
             clear ho5 hg5 hk5 hge))
        refine bodyPost_ret (v := .tuple #[.agg #[.slice va nb vc, .int .i64 (sz : Int), .slice ta tn tc, .int .i64 (Fs : Int), .int .i64 (s : Int), .slice (some ⟨g2, 0, none⟩) 1 cap2, .int .i64 (most : Int)], .int .i64 0]) ?_ rfl ?_
        · simp only [results]
          go_simp
        · rw [← HFs.out trivial]
          exact refw_fin (W := ⟨1, i, b, m⟩) (H1.out.grown HG13.out) (grown_trans HG.out HG13.out) (HX.out.grown HG13.out) (HXR.out.kept (Kept.of_grown HG13.out)) HM.out (by simp) HGE.out HO5.out (fun e => HZ.out _ (Nat.le_trans (HG13.out).size HG2.out) e) (by omega) (by with_reducible (repeat (first | refine kset ?_ (by show _ = _; rfl) | refine kdrew ?_ | exact Kept.refl _ _))) ⟨rfl, by rw [← HTP.out trivial]; rfl⟩
      · have hm0 : 0 < qn := by omega
        go_wp2_with (first
          | (at_builtin
             refine wpList_append_els (o := ⟨some 54, _, _, _, _, _⟩) (K := []) (base := w3.heap.size) rfl _ _ 51 86 rfl Try.underlying51 _ 4 48 info_rwrite rfl (by decide) (OwnR.nil _ _ _ _) rfl rfl ((H1.out.grown HG13.out).todo.elems) (H1.out.todo.1) (todo_one T loc) (by rw [todo_len _ _ H1.out.lens]; exact HLT.out trivial) hm0 (by simp; omega) (by simp only [List.length_nil]; omega) (Nat.le_refl _) ?_
             intro g1 cap1 w4 ho4 hg4 hk4
             rw [List.length_nil, Nat.zero_add, List.nil_append] at ho4
             rw [List.length_nil, Nat.zero_add]
             have HG4 := Lib.hid (show w3.grownBy w4 none from hg4)
             have HO4 := Lib.hid ho4
             have z2 := (B2.out.grown (grown_trans HG13.out HG4.out)).look
             have z3 := (B3.out.grown (grown_trans HG13.out HG4.out)).look
             clear ho4 hg4 hk4)
          | (at_builtin
             refine wpList_append_elem (o := ⟨some 58, _, _, _, _, _⟩) rfl _ _ 51 86 rfl Try.underlying51 _ 4 48 info_rwrite rfl (by decide) (base := w3.heap.size) (HO4.out.grown (World.grownBy_alloc _ _ none)) rfl (heap_new_at _ _ _ (by simp)) rfl rfl (rw_one ⟨1, i, b, m⟩ (xa, xn, xc)) (by rw [todo_len _ _ H1.out.lens, HLT.out trivial]; omega) (by rw [todo_len _ _ H1.out.lens, HLT.out trivial]; omega) (Nat.le_trans HG4.out.size (World.grownBy_alloc _ _ none).size) ?_
             intro g2 cap2 w5 ho5 hg5 hk5
             rw [todo_len _ _ H1.out.lens, HLT.out trivial] at ho5 ⊢
             have hge : w3.grownBy w5 none := grown_new (grown_trans HG4.out (World.grownBy_alloc w4 (.cells #[.int .i64 1, .int .i64 i, .slice xa xn xc, .int .i64 m] 86) none)) (HO4.out.lt g1 rfl).1 hg5
             have HGE := Lib.hid hge
             have HO5 := Lib.hid ho5
             have HG2 := Lib.hid (ho5.lt g2 rfl).1
             have z2 := (B2.out.grown (grown_trans HG13.out hge)).look
             have z4 := (B4.out.grown (grown_trans HG13.out hge)).look
             have p4 := (B4.out.grown (grown_trans HG13.out hge)).open
             clear ho5 hg5 hk5 hge))
        refine bodyPost_ret (v := .tuple #[.agg #[.slice va nb vc, .int .i64 (sz : Int), .slice ta tn tc, .int .i64 (Fs : Int), .int .i64 (s : Int), .slice (some ⟨g2, 0, none⟩) (qn + 1) cap2, .int .i64 (most : Int)], .int .i64 0]) ?_ rfl ?_
        · simp only [results]
          go_simp
        · rw [← HFs.out trivial]
          exact refw_fin (W := ⟨1, i, b, m⟩) (H1.out.grown HG13.out) (grown_trans HG.out HG13.out) (HX.out.grown HG13.out) (HXR.out.kept (Kept.of_grown HG13.out)) HM.out (by simp) HGE.out HO5.out (fun e => HZ.out _ (Nat.le_trans (HG13.out).size HG2.out) e) (by omega) (by with_reducible (repeat (first | refine kset ?_ (by show _ = _; rfl) | refine kdrew ?_ | exact Kept.refl _ _))) ⟨rfl, by rw [← HTP.out trivial]; rfl⟩
set_option maxHeartbeats 3200000 in
include h hX hx hxr hm hT hbig in
theorem ref_with_other (k : Int) (hkk : k = 2 ∨ k = 3) :
    Calls Try.prog 45 #[.agg #[.slice va nb vc, .int .i64 (sz : Int), .slice ta tn tc, .int .i64 ((S.f * s : Nat) : Int), .int .i64 (s : Int), .slice qa qn qc, .int .i64 (most : Int)], .agg #[.int .i64 k, .int .i64 i, .slice xa xn xc, .int .i64 m]] w (RefWPost w X nb sz N s S (T ++ [⟨k, i, b, m⟩]) most (0)) := by
  obtain ⟨w1, hw1, hg1, hs1, b2, b3, b4⟩ := three_boxes w 53 86 53 [.slice va nb vc, .int .i64 (sz : Int), .slice ta tn tc, .int .i64 ((S.f * s : Nat) : Int), .int .i64 (s : Int), .slice qa qn qc, .int .i64 (most : Int)] [.int .i64 k, .int .i64 i, .slice xa xn xc, .int .i64 m] [.slice none 0 0, .int .i64 0, .slice none 0 0, .int .i64 0, .int .i64 0, .slice none 0 0, .int .i64 0]
  have h1 := (h.more (Y := fun k => X k ∨ k = w.heap.size + 2) (fun k e => e.imp id (fun e => by omega))).grown hg1
  have hZ : ∀ k, w1.heap.size ≤ k → ¬ (X k ∨ k = w.heap.size + 2) := fun k hk e => by
    rcases e with e | e
    · exact hX k (by omega) e
    · omega
  have hc := ref_seen h1 hZ most hT (by omega)
  have hs : 1 ≤ s := by have := h.face.seg; omega
  have hend := seenV_end nb sz s hs T S
  obtain ⟨R, hR⟩ : ∃ R, seenV nb sz s S T = R := ⟨_, rfl⟩
  rw [hR] at hc hend
  have HEND := Lib.hid hend
  have HRR := Lib.hid (fun _ : True => hR)
  have HZ := Lib.hid hZ
  have H1 := Lib.hid h1
  have HG := Lib.hid hg1
  have HLT := Lib.hid (fun _ : True => h.len)
  have HZR := Lib.hid h.zero
  have hqn : qn ≤ 1000 := by rw [← h.len]; exact hT
  have HX := Lib.hid (hx.grown hg1)
  have HXR := Lib.hid (show RX w1 (fun k => X k ∨ k = w.heap.size + 2) xa b from (hxr.more (fun k e => e.imp id (fun e => by omega))).kept (Kept.of_grown hg1))
  obtain ⟨Fs, hFs⟩ : ∃ Fs, S.f * s = Fs := ⟨_, rfl⟩
  rw [hFs] at b2 hw1 hc ⊢
  have HC := Lib.hid hc
  have HFs := Lib.hid (fun _ : True => hFs)
  have HW := Lib.hid (fun _ : True => hw1)
  have B2 := Lib.hid b2; have B3 := Lib.hid b3; have B4 := Lib.hid b4
  have HM := Lib.hid hm; have HBG := Lib.hid hbig
  have y2 := b2.look
  clear h hX hx hxr hm hT hbig hw1 hg1 hs1 b2 b3 b4 h1 hZ hs hFs hc hR hend
  obtain ⟨T', hT'⟩ : ∃ T', (T ++ [⟨k, i, b, m⟩]) = T' := ⟨_, rfl⟩
  obtain ⟨E', hE'⟩ : ∃ E' : Int, (0) = E' := ⟨_, rfl⟩
  rw [hT', hE']
  have HTE := Lib.hid (fun _ : True => And.intro hT' hE')
  clear hT' hE'
  have HQK := Lib.hid (show 0 ≤ k ∧ k ≤ 3 by omega)
  have D0 : (k == 0) = false := by rcases hkk with rfl | rfl <;> rfl
  have D1 : (k == 1) = false := by rcases hkk with rfl | rfl <;> rfl
  clear hkk
  go_enter Try.func45, Try.ntmps45
  go_wp2_with fail
  rw [HW.out trivial]
  go_wp2_with fail
  refine HC.out.mono ?_
  rintro r w2 ⟨va2, vc2, ta2, tn2, tc2, rfl, hf, hg2⟩
  obtain ⟨Gs, hGs⟩ : ∃ Gs, R.f * s = Gs := ⟨_, rfl⟩
  rw [hGs]
  obtain ⟨w3, hw3, hg3, hs3, b6, b7⟩ := two_boxes w2 48 50 [.slice va2 nb vc2, .int .i64 (sz : Int)] [.slice ta2 tn2 tc2, .int .i64 (Gs : Int), .int .i64 (s : Int)]
  have HW3 := Lib.hid (fun _ : True => hw3)
  have HF := Lib.hid (hf.grown hg3)
  have HG13 := Lib.hid (grown_trans hg2 hg3)
  have B6 := Lib.hid b6; have B7 := Lib.hid b7
  have y6 := b6.look
  have y7 := b7.look
  have y2 := (B2.out.grown HG13.out).look
  have y3 := (B3.out.grown HG13.out).look
  have y3e := (B3.out.grown HG13.out).look
  rw [← hw3] at y3e
  have y4 := (B4.out.grown HG13.out).look
  have o4 := (B4.out.grown HG13.out).open
  have SI := set_idx
  have SF := set_far
  clear hf hg2 hg3 hw3 hs3 b6 b7 HC hGs
  go_upto_if 18 with (fail)
  rw [HW3.out trivial]
  clear y3e
  obtain rfl := (HTE.out trivial).2
  have HLQ := Lib.hid (fun _ : True => trivial)
  by_cases hq0 : qn = 0
  · obtain ⟨rfl, rfl⟩ := HZR.out hq0
    subst hq0
    have HT0 := Lib.hid (fun _ : True => List.eq_nil_of_length_eq_zero (HLT.out trivial))
    obtain ⟨ii, hii, _⟩ := info_parts info_rwrite
    go_wp2_with (first
      | (at_builtin; refine wpList_append_own_none (o := ⟨some 54, _, _, _, _, _⟩) rfl _ _ 51 rfl 0 86 ii 4 Try.underlying51 hii (.slice none 0 0) 0 [] rfl (World.ownsRow_nil _ _ _ _) rfl ?_)
      | (at_builtin
         refine wpList_append_elem (o := ⟨some 58, _, _, _, _, _⟩) rfl _ _ 51 86 rfl Try.underlying51 _ 4 48 info_rwrite rfl (by decide) (base := w3.heap.size) (L := []) (OwnR.nil _ _ _ _) rfl (heap_new_at _ _ _ (by simp)) rfl rfl (rw_one ⟨k, i, b, m⟩ (xa, xn, xc)) (by simp) (by simp) (by simp) ?_
         intro g2 cap2 w5 ho5 hg5 hk5
         have hge : w3.grownBy w5 none := grown_trans (World.grownBy_alloc w3 (.cells #[.int .i64 k, .int .i64 i, .slice xa xn xc, .int .i64 m] 86) none) hg5
         have HGE := Lib.hid hge
         have HO5 := Lib.hid (show OwnR w5 w3.heap.size 86 4 (.slice (some ⟨g2, 0, none⟩) (0 + 1) cap2) (todoCells T loc ++ [wCells ⟨k, i, b, m⟩ (xa, xn, xc)]) from by rw [HT0.out trivial]; exact ho5)
         have HG2 := Lib.hid (ho5.lt g2 rfl).1
         have z2 := (B2.out.grown (grown_trans HG13.out hge)).look
         have z4 := (B4.out.grown (grown_trans HG13.out hge)).look
         have p4 := (B4.out.grown (grown_trans HG13.out hge)).open
         clear ho5 hg5 hk5 hge))
    refine bodyPost_ret (v := .tuple #[.agg #[.slice va nb vc, .int .i64 (sz : Int), .slice ta tn tc, .int .i64 (Fs : Int), .int .i64 (s : Int), .slice (some ⟨g2, 0, none⟩) 1 cap2, .int .i64 (most : Int)], .int .i64 0]) ?_ rfl ?_
    · simp only [results]
      go_simp
    · rw [← HFs.out trivial]
      exact refw_fin (W := ⟨k, i, b, m⟩) (H1.out.grown HG13.out) (grown_trans HG.out HG13.out) (HX.out.grown HG13.out) (HXR.out.kept (Kept.of_grown HG13.out)) HM.out HQK.out HGE.out HO5.out (fun e => HZ.out _ (Nat.le_trans (HG13.out).size HG2.out) e) (by omega) (by with_reducible (repeat (first | refine kset ?_ (by show _ = _; rfl) | refine kdrew ?_ | exact Kept.refl _ _))) ⟨rfl, by rw [← (HTE.out trivial).1]⟩
  · have hm0 : 0 < qn := by omega
    go_wp2_with (first
      | (at_builtin
         refine wpList_append_els (o := ⟨some 54, _, _, _, _, _⟩) (K := []) (base := w3.heap.size) rfl _ _ 51 86 rfl Try.underlying51 _ 4 48 info_rwrite rfl (by decide) (OwnR.nil _ _ _ _) rfl rfl ((H1.out.grown HG13.out).todo.elems) (H1.out.todo.1) (todo_one T loc) (by rw [todo_len _ _ H1.out.lens]; exact HLT.out trivial) hm0 (by simp; omega) (by simp only [List.length_nil]; omega) (Nat.le_refl _) ?_
         intro g1 cap1 w4 ho4 hg4 hk4
         rw [List.length_nil, Nat.zero_add, List.nil_append] at ho4
         rw [List.length_nil, Nat.zero_add]
         have HG4 := Lib.hid (show w3.grownBy w4 none from hg4)
         have HO4 := Lib.hid ho4
         have z2 := (B2.out.grown (grown_trans HG13.out HG4.out)).look
         have z3 := (B3.out.grown (grown_trans HG13.out HG4.out)).look
         clear ho4 hg4 hk4)
      | (at_builtin
         refine wpList_append_elem (o := ⟨some 58, _, _, _, _, _⟩) rfl _ _ 51 86 rfl Try.underlying51 _ 4 48 info_rwrite rfl (by decide) (base := w3.heap.size) (HO4.out.grown (World.grownBy_alloc _ _ none)) rfl (heap_new_at _ _ _ (by simp)) rfl rfl (rw_one ⟨k, i, b, m⟩ (xa, xn, xc)) (by rw [todo_len _ _ H1.out.lens, HLT.out trivial]; omega) (by rw [todo_len _ _ H1.out.lens, HLT.out trivial]; omega) (Nat.le_trans HG4.out.size (World.grownBy_alloc _ _ none).size) ?_
         intro g2 cap2 w5 ho5 hg5 hk5
         rw [todo_len _ _ H1.out.lens, HLT.out trivial] at ho5 ⊢
         have hge : w3.grownBy w5 none := grown_new (grown_trans HG4.out (World.grownBy_alloc w4 (.cells #[.int .i64 k, .int .i64 i, .slice xa xn xc, .int .i64 m] 86) none)) (HO4.out.lt g1 rfl).1 hg5
         have HGE := Lib.hid hge
         have HO5 := Lib.hid ho5
         have HG2 := Lib.hid (ho5.lt g2 rfl).1
         have z2 := (B2.out.grown (grown_trans HG13.out hge)).look
         have z4 := (B4.out.grown (grown_trans HG13.out hge)).look
         have p4 := (B4.out.grown (grown_trans HG13.out hge)).open
         clear ho5 hg5 hk5 hge))
    refine bodyPost_ret (v := .tuple #[.agg #[.slice va nb vc, .int .i64 (sz : Int), .slice ta tn tc, .int .i64 (Fs : Int), .int .i64 (s : Int), .slice (some ⟨g2, 0, none⟩) (qn + 1) cap2, .int .i64 (most : Int)], .int .i64 0]) ?_ rfl ?_
    · simp only [results]
      go_simp
    · rw [← HFs.out trivial]
      exact refw_fin (W := ⟨k, i, b, m⟩) (H1.out.grown HG13.out) (grown_trans HG.out HG13.out) (HX.out.grown HG13.out) (HXR.out.kept (Kept.of_grown HG13.out)) HM.out HQK.out HGE.out HO5.out (fun e => HZ.out _ (Nat.le_trans (HG13.out).size HG2.out) e) (by omega) (by with_reducible (repeat (first | refine kset ?_ (by show _ = _; rfl) | refine kdrew ?_ | exact Kept.refl _ _))) ⟨rfl, by rw [← (HTE.out trivial).1]⟩
end

def CrRel (w1 : World) (X : Nat → Prop) (p4 p5 nb sz N s : Nat) (S : FaceV) (T : List WriteV) (keep tear : Int) (i : Value) (wr : World) : Prop :=
  ∃ (k : Nat) (va : Option Addr) (vc : Nat) (ta : Option Addr) (tn tc : Nat), k ≤ T.length ∧ i = .int .i64 (k : Int) ∧ RefFace wr X nb sz N s (crashK nb sz s S T keep tear k) va vc ta tn tc ∧ Box wr p4 48 [.slice va nb vc, .int .i64 (sz : Int)] ∧ Box wr p5 50 [.slice ta tn tc, .int .i64 (((crashK nb sz s S T keep tear k).f * s : Nat) : Int), .int .i64 (s : Int)] ∧ Kept (fun q => q = p4 ∨ q = p5) w1 wr
theorem cr_step {w1 wr w5 w6 : World} {X : Nat → Prop} {p4 p5 nb sz N s k Gs : Nat} {S F' : FaceV} {T : List WriteV} {keep tear : Int} {va : Option Addr} {vc : Nat} {ta : Option Addr} {tn tc : Nat} (hlt : k < T.length) (hp4 : X p4) (hp5 : X p5) (hk : Kept (fun q => q = p4 ∨ q = p5) w1 wr) (hg : wr.grownBy w5 none) (hf : RefFace w5 X nb sz N s F' va vc ta tn tc) (hF : F' = crashK nb sz s S T keep tear (k + 1)) (hG : F'.f * s = Gs) (hne : p4 ≠ p5) {c0 c1 d0 d1 d2 : Value} (h4 : Box w5 p4 48 [c0, c1]) (h5 : Box w5 p5 50 [d0, d1, d2])
    (h6 : w6 = sv45 w5 p4 p5 nb sz Gs s va vc ta tn tc ∨ w6 = sv54 w5 p4 p5 nb sz Gs s va vc ta tn tc) : CrRel w1 X p4 p5 nb sz N s S T keep tear (.int .i64 ((k : Int) + 1)) w6 := by
  subst hF
  have hX : ∀ q, q = p4 ∨ q = p5 → X q := fun q e => by rcases e with rfl | rfl <;> assumption
  refine ⟨k + 1, va, vc, ta, tn, tc, hlt, by go_num, ?_⟩
  rw [hG]
  rcases h6 with rfl | rfl
  · have hb := sv45_box hne h4 h5 nb sz Gs s va vc ta tn tc
    have hkk := sv45_kept w5 p4 p5 nb sz Gs s va vc ta tn tc
    exact ⟨hf.kept (hkk.more hX), hb.1, hb.2, (hk.trans (Kept.of_grown hg)).trans hkk⟩
  · have hb := sv54_box hne h4 h5 nb sz Gs s va vc ta tn tc
    have hkk := sv54_kept w5 p4 p5 nb sz Gs s va vc ta tn tc
    exact ⟨hf.kept (hkk.more hX), hb.1, hb.2, (hk.trans (Kept.of_grown hg)).trans hkk⟩
theorem crashK_done {nb sz s : Nat} {F : FaceV} {T : List WriteV} {keep tear : Int} {k : Nat} (hk : keep.toNat < k) : crashK nb sz s F T keep tear k = crashV nb sz s F T keep tear := by
  unfold crashK crashV
  rw [if_neg (by omega)]
  cases T.drop keep.toNat <;> rfl
theorem doV_tear (nb sz s : Nat) (F : FaceV) (W : WriteV) (n : Int) : doV nb sz s F W true n = doV nb sz s F W true (n.toNat : Nat) := by
  simp only [doV, tornB, tearV, clampN, Int.toNat_natCast, if_true]
theorem crashV_nat (nb sz s : Nat) (F : FaceV) (T : List WriteV) (keep tear : Int) : crashV nb sz s F T keep tear = crashV nb sz s F T (keep.toNat : Nat) (tear.toNat : Nat) := by
  unfold crashV
  rw [Int.toNat_natCast]
  cases T.drop keep.toNat with
  | nil => rfl
  | cons W R => exact doV_tear _ _ _ _ _ _
theorem four_boxes (w : World) (T4 T5 T6 T8 : TypeId) (c4 c5 c6 c8 : List Value) : ∃ w1, ((((w.alloc (.cells c4.toArray T4)).alloc (.cells c5.toArray T5)).alloc (.cells c6.toArray T6)).alloc (.cells c8.toArray T8)) = w1 ∧ w.grownBy w1 none ∧ w1.heap.size = w.heap.size + 4 ∧
    Box w1 w.heap.size T4 c4 ∧ Box w1 (w.heap.size + 1) T5 c5 ∧ Box w1 (w.heap.size + 2) T6 c6 ∧ Box w1 (w.heap.size + 3) T8 c8 :=
  ⟨_, rfl, growA _ _ (growA _ _ (growA _ _ (growA _ _ (World.grownBy.refl _ _)))), by simp,
    (((Box.new w T4 c4 _ rfl).alloc _).alloc _).alloc _, ((Box.new _ T5 c5 _ (by simp)).alloc _).alloc _, (Box.new _ T6 c6 _ (by simp)).alloc _, Box.new _ T8 c8 _ (by simp)⟩
def CrCut (w1 : World) (n : Nat) (s1 : Value) (wx : World) : Prop := s1 = .int .i64 (n : Int) ∧ wx = w1
theorem crCut_neg {w1 : World} {x : Int} (h : x < 0) : CrCut w1 x.toNat (.int .i64 0) w1 := ⟨by rw [show x.toNat = 0 by omega]; rfl, rfl⟩
theorem crCut_pos {w1 : World} {x : Int} (h : 0 ≤ x) : CrCut w1 x.toNat (.int .i64 x) w1 := ⟨by rw [show ((x.toNat : Nat) : Int) = x by omega], rfl⟩
set_option maxHeartbeats 3200000 in
theorem ref_crash {w : World} {X : Nat → Prop} {nb sz N s : Nat} {S : FaceV} {T : List WriteV} {va : Option Addr} {vc : Nat} {ta : Option Addr} {tn tc : Nat} {qa : Option Addr} {qn qc : Nat} {loc : List Loc} (h : RefDisk w X nb sz N s S T va vc ta tn tc qa qn qc loc) (hX : ∀ k, w.heap.size ≤ k → ¬ X k) (most keep tear : Int) (hT : T.length ≤ 1000) (hbig : endV s S + totB T ≤ 549755813888) :
    Calls Try.prog 44 #[.agg #[.slice va nb vc, .int .i64 (sz : Int), .slice ta tn tc, .int .i64 ((S.f * s : Nat) : Int), .int .i64 (s : Int), .slice qa qn qc, .int .i64 most], .int .i64 keep, .int .i64 tear] w (RefDPost w X nb sz N s (crashV nb sz s S T keep tear) [] most) := by
  rw [crashV_nat]
  obtain ⟨w1, hw1, hg1, hs1, b1, b2, b4, b5⟩ := four_boxes w 53 53 48 50 [.slice va nb vc, .int .i64 (sz : Int), .slice ta tn tc, .int .i64 ((S.f * s : Nat) : Int), .int .i64 (s : Int), .slice qa qn qc, .int .i64 most] [.slice none 0 0, .int .i64 0, .slice none 0 0, .int .i64 0, .int .i64 0, .slice none 0 0, .int .i64 0] [.slice va nb vc, .int .i64 (sz : Int)] [.slice ta tn tc, .int .i64 ((S.f * s : Nat) : Int), .int .i64 (s : Int)]
  obtain ⟨Z, hZd⟩ : ∃ Z : Nat → Prop, Z = fun k => X k ∨ (w.heap.size ≤ k ∧ k < w.heap.size + 4) := ⟨_, rfl⟩
  have hZi : ∀ k, Z k ↔ (X k ∨ (w.heap.size ≤ k ∧ k < w.heap.size + 4)) := fun k => by rw [hZd]
  have h1 := (h.more (Y := Z) (fun k e => ((hZi k).1 e).imp id (fun e => e.1))).grown hg1
  have hZ : ∀ k, w1.heap.size ≤ k → ¬ Z k := fun k hk e => by
    rcases (hZi k).1 e with e | e
    · exact hX k (by omega) e
    · omega
  have hs : 1 ≤ s := by have := h.face.seg; omega
  have HX1 := Lib.hid (fun k (e : X k) => (hZi k).2 (.inl e))
  have HZ := Lib.hid hZ
  have HP := Lib.hid (And.intro ((hZi (w.heap.size + 2)).2 (.inr (by omega))) (And.intro ((hZi (w.heap.size + 3)).2 (.inr (by omega))) ((hZi (w.heap.size + 1)).2 (.inr (by omega)))))
  have HS := Lib.hid hs
  have H1 := Lib.hid h1
  have HG := Lib.hid hg1
  have HB := Lib.hid hbig
  have HLT := Lib.hid (fun _ : True => h.len)
  have hqn : qn ≤ 1000 := by rw [← h.len]; exact hT
  have HRT := Lib.hid (fun kn tq => show CrRel w1 Z (w.heap.size + 2) (w.heap.size + 3) nb sz N s S T kn tq (.int .i64 0) w1 from ⟨0, va, vc, ta, tn, tc, Nat.zero_le _, rfl, by rw [crashK_zero]; exact h1.face, b4, by rw [crashK_zero]; exact b5, Kept.refl _ _⟩)
  obtain ⟨Fs, hFs⟩ : ∃ Fs, S.f * s = Fs := ⟨_, rfl⟩
  rw [hFs] at b1 hw1 ⊢
  have HW := Lib.hid (fun _ : True => hw1)
  have B1 := Lib.hid b1; have B2 := Lib.hid b2
  obtain ⟨kn, hkn⟩ : ∃ kn, keep.toNat = kn := ⟨_, rfl⟩
  obtain ⟨tq, htq⟩ : ∃ tq, tear.toNat = tq := ⟨_, rfl⟩
  have HKN := Lib.hid (fun _ : True => hkn); have HTQ := Lib.hid (fun _ : True => htq)
  rw [hkn, htq]
  clear h hX hT hbig hw1 hg1 hs1 b1 b2 b4 b5 hZd hZi h1 hZ hs hFs hkn htq
  go_enter Try.func44, Try.ntmps44
  go_upto_if 11 with (fail)
  go_cut [1] (fun s1 wx => CrCut ((w.alloc (.cells #[.slice va nb vc, .int .i64 (sz : Int), .slice ta tn tc, .int .i64 (Fs : Int), .int .i64 (s : Int), .slice qa qn qc, .int .i64 most] 53)).alloc (.cells #[.slice none 0 0, .int .i64 0, .slice none 0 0, .int .i64 0, .int .i64 0, .slice none 0 0, .int .i64 0] 53)) kn s1 wx)
  case first =>
    by_cases hi : keep < 0
    · have HI := Lib.hid hi
      go_wp2_with fail
      go_meet
      rw [← HKN.out trivial]
      exact crCut_neg (by omega)
    · have HI := Lib.hid hi
      go_wp2_with fail
      go_meet
      rw [← HKN.out trivial]
      exact crCut_pos (by omega)
  case rest =>
  obtain ⟨rfl, rfl⟩ := hcut
  go_upto_if 13 with (fail)
  go_cut [2] (fun s1 wx => CrCut ((w.alloc (.cells #[.slice va nb vc, .int .i64 (sz : Int), .slice ta tn tc, .int .i64 (Fs : Int), .int .i64 (s : Int), .slice qa qn qc, .int .i64 most] 53)).alloc (.cells #[.slice none 0 0, .int .i64 0, .slice none 0 0, .int .i64 0, .int .i64 0, .slice none 0 0, .int .i64 0] 53)) tq s1 wx)
  case first =>
    by_cases hi : tear < 0
    · have HI := Lib.hid hi
      go_wp2_with fail
      go_meet
      rw [← HTQ.out trivial]
      exact crCut_neg (by omega)
    · have HI := Lib.hid hi
      go_wp2_with fail
      go_meet
      rw [← HTQ.out trivial]
      exact crCut_pos (by omega)
  case rest =>
  obtain ⟨rfl, rfl⟩ := hcut
  go_wp2_with fail
  rw [HW.out trivial]
  go_loopw [9] (fun i wr => CrRel w1 Z (w.heap.size + 2) (w.heap.size + 3) nb sz N s S T (kn : Nat) (tq : Nat) i wr) (fun i _ => qn - (intOf i).toNat)
  case atStart => exact HRT.out _ _
  case round =>
    obtain ⟨k, va', vc', ta', tn', tc', hk, rfl, hf, hb4, hb5, hkp⟩ := hrel
    have hd := H1.out.kept (hkp.more (fun q e => by rcases e with rfl | rfl; exact HP.out.1; exact HP.out.2.1))
    have B1r := B1.out.keptX hkp (by omega)
    have B2r := B2.out.keptX hkp (by omega)
    have B3r := trivial
    have HST := trivial
    have y1 := B1r.look
    have hle : k ≤ qn := by rw [← HLT.out trivial]; exact hk
    have HKP := Lib.hid hkp
    by_cases hlt : k < qn
    · have hkT : k < T.length := by rw [HLT.out trivial]; exact hlt
      have j0 : (k : Int) < (qn : Int) := by omega
      by_cases hkk : k < kn
      · have j1 : (k : Int) ≤ (kn : Int) := by omega
        have j2 : (k : Int) < (kn : Int) := by omega
        obtain ⟨b, o, xa, xn, xc, rfl, hbx, d0, d1, d2, d3, hl⟩ := hd.at k hkT
        have hkind := hd.kinds T[k] (List.getElem_mem hkT)
        have hend := crashK_end (nb := nb) (sz := sz) HS.out S T (kn : Nat) (tq : Nat) k
        have htb := totB_at hkT
        have hxl := hl.inb.len_eq
        unfold endV at hend
        have hbig := HB.out
        unfold endV at hbig
        have hdo := fun u (hu : wr.grownBy u none) => ref_do (hf.grown hu) (fun q hq => HZ.out q (Nat.le_trans (hkp.size) (Nat.le_trans hu.size hq))) T[k] (-1) xa xn xc (hl.inb.grown hu) hkind hl.n (by simp only at hxl; omega)
        have hsn := crashK_whole (nb := nb) (sz := sz) (s := s) (F := S) (keep := (kn : Nat)) (tear := (tq : Nat)) hkT (by omega)
        obtain ⟨F', hF'⟩ : ∃ F', doV nb sz s (crashK nb sz s S T (kn : Nat) (tq : Nat) k) T[k] false 0 = F' := ⟨_, rfl⟩
        rw [show decide (0 ≤ (-1 : Int)) = false from rfl, doV_whole, hF'] at hdo
        rw [hF'] at hsn
        unfold RefDoPost at hdo
        obtain ⟨Gs, hGs⟩ : ∃ Gs, F'.f * s = Gs := ⟨_, rfl⟩
        rw [hGs] at hdo
        generalize T[k] = W at *
        generalize crashK nb sz s S T (kn : Nat) (tq : Nat) k = Fk at *
        obtain ⟨Fsk, hFsk⟩ : ∃ Fsk, Fk.f * s = Fsk := ⟨_, rfl⟩
        rw [hFsk] at hdo hb5
        have HDO := Lib.hid hdo; have HSN := Lib.hid (fun _ : True => And.intro hsn hGs)
        have HB4 := Lib.hid hb4; have HB5 := Lib.hid hb5
        have y4 := hb4.look
        have y5 := hb5.look
        have i0 : (0 : Int) ≤ (k : Int) := by omega
        have i1 : (k : Int) < (qn : Int) := by omega
        have SI := set_idx
        have SF := set_far
        have HKT := Lib.hid hkT
        clear htb hdo hsn hGs hF' hb4 hb5 hd hl hf hend hxl hbig hkind hbx B1r B2r B3r HST hkp hFsk hkT
        go_wp2_with fail
        go_region_law (first
          | (go_simp
             go_at_call 65
             refine (HDO.out _ (by first | exact World.grownBy.refl _ _ | exact grown_drew1 _)).mono ?_
             rintro r w5 ⟨va2, vc2, ta2, tn2, tc2, rfl, hf5, hg5⟩
             have HF5 := Lib.hid hf5
             have hg6 : wr.grownBy w5 none := (by first | exact hg5 | exact grown_trans (grown_drew1 _) hg5)
             have z4 := HB4.out.grown hg6
             have z5 := HB5.out.grown hg6
             have Z4 := Lib.hid z4; have Z5 := Lib.hid z5
             have q4 := z4.look
             have q5 := z5.look
             have p4 := z4.open
             have p5 := z5.open
             have HG6 := Lib.hid hg6
             clear hf5 hg5 hg6 z4 z5))
        all_goals (
          have HR1 := Lib.hid (fun w6 h6 => cr_step (w6 := w6) HKT.out HP.out.1 HP.out.2.1 HKP.out HG6.out HF5.out ((HSN.out trivial).1.symm) (HSN.out trivial).2 (by omega) Z4.out Z5.out h6)
          clear q4 q5 p4 p5 y4 y5
          go_wp2_with fail
          go_roundw)
        all_goals first
          | exact HR1.out _ (.inl rfl)
          | exact HR1.out _ (.inr rfl)
          | (simp only [intOf]; omega)
      · by_cases hke : k = kn
        · have j1 : (k : Int) ≤ (kn : Int) := by omega
          have j2 : ¬ (k : Int) < (kn : Int) := by omega
          have HKE := Lib.hid (fun _ : True => hke)
          clear hke hkk
          obtain ⟨b, o, xa, xn, xc, rfl, hbx, d0, d1, d2, d3, hl⟩ := hd.at k hkT
          have hkind := hd.kinds T[k] (List.getElem_mem hkT)
          have hend := crashK_end (nb := nb) (sz := sz) HS.out S T (kn : Nat) (tq : Nat) k
          have htb := totB_at hkT
          have hxl := hl.inb.len_eq
          unfold endV at hend
          have hbig := HB.out
          unfold endV at hbig
          have hdo := fun u (hu : wr.grownBy u none) => ref_do (hf.grown hu) (fun q hq => HZ.out q (Nat.le_trans (hkp.size) (Nat.le_trans hu.size hq))) T[k] (tq : Nat) xa xn xc (hl.inb.grown hu) hkind hl.n (by simp only at hxl; omega)
          have hsn := crashK_torn (nb := nb) (sz := sz) (s := s) (F := S) (keep := (kn : Nat)) (tear := (tq : Nat)) hkT (by have := HKE.out trivial; omega)
          obtain ⟨F', hF'⟩ : ∃ F', doV nb sz s (crashK nb sz s S T (kn : Nat) (tq : Nat) k) T[k] true (tq : Nat) = F' := ⟨_, rfl⟩
          rw [show decide (0 ≤ ((tq : Nat) : Int)) = true from decide_eq_true (Int.natCast_nonneg _), hF'] at hdo
          rw [hF'] at hsn
          unfold RefDoPost at hdo
          obtain ⟨Gs, hGs⟩ : ∃ Gs, F'.f * s = Gs := ⟨_, rfl⟩
          rw [hGs] at hdo
          generalize T[k] = W at *
          generalize crashK nb sz s S T (kn : Nat) (tq : Nat) k = Fk at *
          obtain ⟨Fsk, hFsk⟩ : ∃ Fsk, Fk.f * s = Fsk := ⟨_, rfl⟩
          rw [hFsk] at hdo hb5
          have HDO := Lib.hid hdo; have HSN := Lib.hid (fun _ : True => And.intro hsn hGs)
          have HB4 := Lib.hid hb4; have HB5 := Lib.hid hb5
          have y4 := hb4.look
          have y5 := hb5.look
          have i0 : (0 : Int) ≤ (k : Int) := by omega
          have i1 : (k : Int) < (qn : Int) := by omega
          have SI := set_idx
          have SF := set_far
          have HKT := Lib.hid hkT
          clear htb hdo hsn hGs hF' hb4 hb5 hd hl hf hend hxl hbig hkind hbx B1r B2r B3r HST hkp hFsk hkT
          go_wp2_with fail
          go_region_law (first
            | (go_simp
               go_at_call 65
               refine (HDO.out _ (by first | exact World.grownBy.refl _ _ | exact grown_drew1 _)).mono ?_
               rintro r w5 ⟨va2, vc2, ta2, tn2, tc2, rfl, hf5, hg5⟩
               have HF5 := Lib.hid hf5
               have hg6 : wr.grownBy w5 none := (by first | exact hg5 | exact grown_trans (grown_drew1 _) hg5)
               have z4 := HB4.out.grown hg6
               have z5 := HB5.out.grown hg6
               have Z4 := Lib.hid z4; have Z5 := Lib.hid z5
               have q4 := z4.look
               have q5 := z5.look
               have p4 := z4.open
               have p5 := z5.open
               have HG6 := Lib.hid hg6
               clear hf5 hg5 hg6 z4 z5))
          all_goals (
            have HR1 := Lib.hid (fun w6 h6 => cr_step (w6 := w6) HKT.out HP.out.1 HP.out.2.1 HKP.out HG6.out HF5.out ((HSN.out trivial).1.symm) (HSN.out trivial).2 (by omega) Z4.out Z5.out h6)
            clear q4 q5 p4 p5 y4 y5
            go_wp2_with fail
            go_roundw)
          all_goals first
            | exact HR1.out _ (.inl rfl)
            | exact HR1.out _ (.inr rfl)
            | (simp only [intOf]; omega)
        · have j1 : ¬ (k : Int) ≤ (kn : Int) := by omega
          have hkT := crashK_done (nb := nb) (sz := sz) (s := s) (F := S) (T := T) (keep := (kn : Nat)) (tear := (tq : Nat)) (k := k) (by rw [Int.toNat_natCast]; omega)
          rw [hkT] at hf hb5
          obtain ⟨R, hR⟩ : ∃ R, crashV nb sz s S T (kn : Nat) (tq : Nat) = R := ⟨_, rfl⟩
          rw [hR] at hf hb5
          obtain ⟨Gs, hGs⟩ : ∃ Gs, R.f * s = Gs := ⟨_, rfl⟩
          rw [hGs] at hb5
          have y4 := hb4.look
          have y5 := hb5.look
          have y2 := B2r.look
          have o2 := B2r.open
          have SI := set_idx
          have SF := set_far
          have HF := Lib.hid ((hf.more (Y := fun k => X k ∨ k = w.heap.size + 1) (fun q e => by
            rcases e with e | rfl
            · exact .inl (HX1.out q e)
            · exact .inl HP.out.2.2)).disk0)
          have HGS := Lib.hid (fun _ : True => hGs)
          have HRR := Lib.hid (fun _ : True => hR)
          have HG3 := Lib.hid (Kept.own HG.out hkp (fun q e => by rcases e with rfl | rfl <;> omega))
          clear hf hb4 hb5 hd hkp hkT hR hGs B1r B2r
          go_wp2_with fail
          refine bodyPost_ret (v := .agg #[.slice va' nb vc', .int .i64 (sz : Int), .slice ta' tn' tc', .int .i64 (Gs : Int), .int .i64 (s : Int), .slice none 0 0, .int .i64 most]) ?_ rfl ?_
          · simp only [results]
            go_simp
          · show RefDPost w X nb sz N s (crashV nb sz s S T _ _) [] most _ _
            first | rw [HRR.out trivial] | rw [HKN.out trivial, HTQ.out trivial, HRR.out trivial]
            exact refd_finG (HGS.out trivial) HF.out HG3.out (by omega) (by with_reducible (repeat (first | refine kset ?_ (by show _ = _; rfl) | refine kdrew ?_ | exact Kept.refl _ _)))
    · obtain rfl : k = qn := by omega
      have hkT : crashK nb sz s S T (kn : Nat) (tq : Nat) k = crashV nb sz s S T (kn : Nat) (tq : Nat) := by rw [← HLT.out trivial, crashK_all]
      have j0 : ¬ (k : Int) < (k : Int) := by omega
      rw [hkT] at hf hb5
      obtain ⟨R, hR⟩ : ∃ R, crashV nb sz s S T (kn : Nat) (tq : Nat) = R := ⟨_, rfl⟩
      rw [hR] at hf hb5
      obtain ⟨Gs, hGs⟩ : ∃ Gs, R.f * s = Gs := ⟨_, rfl⟩
      rw [hGs] at hb5
      have y4 := hb4.look
      have y5 := hb5.look
      have y2 := B2r.look
      have o2 := B2r.open
      have SI := set_idx
      have SF := set_far
      have HF := Lib.hid ((hf.more (Y := fun k => X k ∨ k = w.heap.size + 1) (fun q e => by
        rcases e with e | rfl
        · exact .inl (HX1.out q e)
        · exact .inl HP.out.2.2)).disk0)
      have HGS := Lib.hid (fun _ : True => hGs)
      have HRR := Lib.hid (fun _ : True => hR)
      have HG3 := Lib.hid (Kept.own HG.out hkp (fun q e => by rcases e with rfl | rfl <;> omega))
      clear hf hb4 hb5 hd hkp hkT hR hGs B1r B2r
      go_wp2_with fail
      refine bodyPost_ret (v := .agg #[.slice va' nb vc', .int .i64 (sz : Int), .slice ta' tn' tc', .int .i64 (Gs : Int), .int .i64 (s : Int), .slice none 0 0, .int .i64 most]) ?_ rfl ?_
      · simp only [results]
        go_simp
      · show RefDPost w X nb sz N s (crashV nb sz s S T _ _) [] most _ _
        first | rw [HRR.out trivial] | rw [HKN.out trivial, HTQ.out trivial, HRR.out trivial]
        exact refd_finG (HGS.out trivial) HF.out HG3.out (by omega) (by with_reducible (repeat (first | refine kset ?_ (by show _ = _; rfl) | refine kdrew ?_ | exact Kept.refl _ _)))

theorem refw_backG {w w3 w4 : World} {X : Nat → Prop} {p nb sz N s most Gs : Nat} {S S' : FaceV} {T : List WriteV} {e : Int} {T' : List WriteV} {E : Int} {va : Option Addr} {vc : Nat} {ta : Option Addr} {tn tc : Nat} {qa : Option Addr} {qn qc : Nat} {loc : List Loc} (hG : S.f * s = Gs) (h : RefDisk w3 (fun k => X k ∨ k = p) nb sz N s S T va vc ta tn tc qa qn qc loc) (hg : w.grownBy w3 none) (hp : w.heap.size ≤ p) (hk : Kept (fun k => k = p) w3 w4) (hE : E = e ∧ T' = T ∧ S' = S) :
    RefWPost w X nb sz N s S' T' most E (.returned (.tuple #[.agg #[.slice va nb vc, .int .i64 (sz : Int), .slice ta tn tc, .int .i64 (Gs : Int), .int .i64 (s : Int), .slice qa qn qc, .int .i64 (most : Int)], .int .i64 e])) w4 := by
  subst hG
  rw [hE.2.2]
  exact refw_back h hg hp hk ⟨hE.1, hE.2.1⟩
/-- what an act leaves of the document's disk -/
def tolST (nb sz s most : Nat) (A : DActV) (S : FaceV) (T : List WriteV) : FaceV × List WriteV :=
  if A.k.tmod 6 = 4 then (seenV nb sz s S T, [])
  else if A.k.tmod 6 = 5 then (crashV nb sz s S T A.i A.t, [])
  else if A.k.tmod 6 = 0 then (S, if putE nb sz A.i A.b.length = 0 then T ++ [⟨0, A.i, A.b, A.n⟩] else T)
  else if A.k.tmod 6 = 1 then (S, if appE most A.b.length (seenV nb sz s S T).l.length = 0 then T ++ [⟨1, A.i, A.b, A.n⟩] else T)
  else (S, T ++ [⟨A.k.tmod 6, A.i, A.b, A.n⟩])
section
variable {w : World} {X : Nat → Prop} {nb sz N s most : Nat} {S : FaceV} {T : List WriteV} {va : Option Addr} {vc : Nat} {ta : Option Addr} {tn tc : Nat} {qa : Option Addr} {qn qc : Nat} {loc : List Loc} (h : RefDisk w X nb sz N s S T va vc ta tn tc qa qn qc loc) (hX : ∀ k, w.heap.size ≤ k → ¬ X k) (A : DActV) (hA : A.ok w) (hAx : RX w X A.a A.b) (hAl : A.len ≤ 1000000) (hT : T.length ≤ 1000) (hbig : endV s S + totB T ≤ 1000000000)
set_option maxHeartbeats 3200000 in
include h hX hA hAx hAl hT hbig in
theorem ref_told :
    Calls Try.prog 22 #[.agg #[.slice va nb vc, .int .i64 (sz : Int), .slice ta tn tc, .int .i64 ((S.f * s : Nat) : Int), .int .i64 (s : Int), .slice qa qn qc, .int .i64 (most : Int)], .agg #[.int .u8 A.k, .int .i64 A.i, .int .i64 A.t, .int .i64 A.n, .slice A.a A.len A.cap]] w (RefWPost w X nb sz N s (tolST nb sz s most A S T).1 (tolST nb sz s most A S T).2 most (actErr nb sz s most A S T)) := by
  obtain ⟨w1, hw1, hg1, hs1, b2, b3, b4⟩ := three_boxes w 53 27 53 [.slice va nb vc, .int .i64 (sz : Int), .slice ta tn tc, .int .i64 ((S.f * s : Nat) : Int), .int .i64 (s : Int), .slice qa qn qc, .int .i64 (most : Int)] [.int .u8 A.k, .int .i64 A.i, .int .i64 A.t, .int .i64 A.n, .slice A.a A.len A.cap] [.slice none 0 0, .int .i64 0, .slice none 0 0, .int .i64 0, .int .i64 0, .slice none 0 0, .int .i64 0]
  have h1 := (h.more (Y := fun k => X k ∨ k = w.heap.size + 2) (fun k e => e.imp id (fun e => by omega))).grown hg1
  have hZ : ∀ k, w1.heap.size ≤ k → ¬ (X k ∨ k = w.heap.size + 2) := fun k hk e => by
    rcases e with e | e
    · exact hX k (by omega) e
    · omega
  have hin := hA.b.grown hg1
  have hxr : RX w1 (fun k => X k ∨ k = w.heap.size + 2) A.a A.b := (hAx.more (fun k e => e.imp id (fun e => by omega))).kept (Kept.of_grown hg1)
  have hm := hA.n.1
  have C4 := Lib.hid (ref_sync h1 hZ most hT (by omega))
  have C5 := Lib.hid (ref_crash h1 hZ most A.i A.t hT (by omega))
  have C0 := Lib.hid (ref_with_put (most := most) h1 hZ A.i A.n A.b A.a A.len A.cap hin hxr hm hT hbig)
  have C1 := Lib.hid (ref_with_app (most := most) h1 hZ A.i A.n A.b A.a A.len A.cap hin hxr hm hT hbig hAl)
  have C2 := Lib.hid (fun k hk => ref_with_other (most := most) h1 hZ A.i A.n A.b A.a A.len A.cap hin hxr hm hT hbig k hk)
  have hq : 0 ≤ A.k.tmod 6 ∧ A.k.tmod 6 < 6 := by
    have := hA.k
    rw [Int.tmod_eq_emod_of_nonneg this.1]
    omega
  unfold tolST actErr
  obtain ⟨q, hqq⟩ : ∃ q, A.k.tmod 6 = q := ⟨_, rfl⟩
  rw [hqq] at hq ⊢
  have q1 : IntKind.u8.wrap q = q := by rw [IntKind.wrap_u8]; omega
  have q2 : IntKind.i64.wrap q = q := by rw [IntKind.wrap_i64]; omega
  obtain ⟨Fs, hFs⟩ : ∃ Fs, S.f * s = Fs := ⟨_, rfl⟩
  rw [hFs] at b2 hw1 C4 C5 C0 C1 C2 ⊢
  have HW := Lib.hid (fun _ : True => hw1)
  have HG := Lib.hid hg1
  have B2 := Lib.hid b2; have B3 := Lib.hid b3; have B4 := Lib.hid b4
  have y2 := b2.look
  have y3 := b3.look
  clear h hX hA hAx hAl hT hbig hw1 hg1 hs1 b2 b3 b4 h1 hZ hin hxr hm hFs
  by_cases e4 : q = 4
  · subst e4
    rw [if_pos rfl, if_neg (by decide), if_neg (by decide)]
    obtain ⟨S2, hS2⟩ : ∃ S2, (seenV nb sz s S T) = S2 := ⟨_, rfl⟩
    obtain ⟨T2, hT2⟩ : ∃ T2 : List WriteV, ([]) = T2 := ⟨_, rfl⟩
    obtain ⟨E2, hE2⟩ : ∃ E2 : Int, (0) = E2 := ⟨_, rfl⟩
    have HSTE := Lib.hid (fun _ : True => And.intro hS2 (And.intro hT2 hE2))
    rw [show ((seenV nb sz s S T, ([] : List WriteV))).1 = seenV nb sz s S T from rfl, show ((seenV nb sz s S T, ([] : List WriteV))).2 = [] from rfl, hS2]
    have hc := C4.out
    rw [hS2] at hc
    have HC := Lib.hid hc
    clear hc
    clear hS2 hT2 hE2 C4 C5 C0 C1 C2
    go_enter Try.func22, Try.ntmps22
    go_wp2_with fail
    rw [HW.out trivial]
    go_wp2_with fail
    refine HC.out.mono ?_
    rintro r w2 ⟨va2, vc2, ta2, tn2, tc2, qa2, qn2, qc2, loc2, rfl, hd2, hg2⟩
    obtain ⟨Gs, hGs⟩ : ∃ Gs, S2.f * s = Gs := ⟨_, rfl⟩
    rw [hGs]
    have HGS := Lib.hid (fun _ : True => hGs)
    have HD2 := Lib.hid hd2; have HG2 := Lib.hid hg2
    have z4 := (B4.out.grown hg2).look
    have p4 := (B4.out.grown hg2).open
    have SI := set_idx
    have SF := set_far
    clear hd2 hg2 hGs HC
    go_wp2_with fail
    refine bodyPost_ret (v := .tuple #[.agg #[.slice va2 nb vc2, .int .i64 (sz : Int), .slice ta2 tn2 tc2, .int .i64 (Gs : Int), .int .i64 (s : Int), .slice qa2 qn2 qc2, .int .i64 (most : Int)], .int .i64 0]) ?_ rfl ?_
    · simp only [results]
      go_simp
    · exact refw_backG (HGS.out trivial) HD2.out (grown_trans HG.out HG2.out) (by omega) (by with_reducible (repeat (first | refine kset ?_ (by show _ = _; rfl) | refine kdrew ?_ | exact Kept.refl _ _))) ⟨rfl, rfl, rfl⟩
  · by_cases e5 : q = 5
    · subst e5
      rw [if_neg (by decide), if_pos rfl, if_neg (by decide), if_neg (by decide)]
      obtain ⟨S2, hS2⟩ : ∃ S2, (crashV nb sz s S T A.i A.t) = S2 := ⟨_, rfl⟩
      obtain ⟨T2, hT2⟩ : ∃ T2 : List WriteV, ([]) = T2 := ⟨_, rfl⟩
      obtain ⟨E2, hE2⟩ : ∃ E2 : Int, (0) = E2 := ⟨_, rfl⟩
      have HSTE := Lib.hid (fun _ : True => And.intro hS2 (And.intro hT2 hE2))
      rw [show ((crashV nb sz s S T A.i A.t, ([] : List WriteV))).1 = crashV nb sz s S T A.i A.t from rfl, show ((crashV nb sz s S T A.i A.t, ([] : List WriteV))).2 = [] from rfl, hS2]
      have hc := C5.out
      rw [hS2] at hc
      have HC := Lib.hid hc
      clear hc
      clear hS2 hT2 hE2 C4 C5 C0 C1 C2
      go_enter Try.func22, Try.ntmps22
      go_wp2_with fail
      rw [HW.out trivial]
      go_wp2_with fail
      refine HC.out.mono ?_
      rintro r w2 ⟨va2, vc2, ta2, tn2, tc2, qa2, qn2, qc2, loc2, rfl, hd2, hg2⟩
      obtain ⟨Gs, hGs⟩ : ∃ Gs, S2.f * s = Gs := ⟨_, rfl⟩
      rw [hGs]
      have HGS := Lib.hid (fun _ : True => hGs)
      have HD2 := Lib.hid hd2; have HG2 := Lib.hid hg2
      have z4 := (B4.out.grown hg2).look
      have p4 := (B4.out.grown hg2).open
      have SI := set_idx
      have SF := set_far
      clear hd2 hg2 hGs HC
      go_wp2_with fail
      refine bodyPost_ret (v := .tuple #[.agg #[.slice va2 nb vc2, .int .i64 (sz : Int), .slice ta2 tn2 tc2, .int .i64 (Gs : Int), .int .i64 (s : Int), .slice qa2 qn2 qc2, .int .i64 (most : Int)], .int .i64 0]) ?_ rfl ?_
      · simp only [results]
        go_simp
      · exact refw_backG (HGS.out trivial) HD2.out (grown_trans HG.out HG2.out) (by omega) (by with_reducible (repeat (first | refine kset ?_ (by show _ = _; rfl) | refine kdrew ?_ | exact Kept.refl _ _))) ⟨rfl, rfl, rfl⟩
    · by_cases e0 : q = 0
      · subst e0
        rw [if_neg (by decide), if_neg (by decide), if_pos rfl, if_pos rfl]
        obtain ⟨S2, hS2⟩ : ∃ S2, (S) = S2 := ⟨_, rfl⟩
        obtain ⟨T2, hT2⟩ : ∃ T2 : List WriteV, (if putE nb sz A.i A.b.length = 0 then T ++ [⟨0, A.i, A.b, A.n⟩] else T) = T2 := ⟨_, rfl⟩
        obtain ⟨E2, hE2⟩ : ∃ E2 : Int, (putE nb sz A.i A.b.length) = E2 := ⟨_, rfl⟩
        have HSTE := Lib.hid (fun _ : True => And.intro hS2 (And.intro hT2 hE2))
        rw [show ((S, if putE nb sz A.i A.b.length = 0 then T ++ [⟨0, A.i, A.b, A.n⟩] else T)).1 = S from rfl, show ((S, if putE nb sz A.i A.b.length = 0 then T ++ [⟨0, A.i, A.b, A.n⟩] else T)).2 = (if putE nb sz A.i A.b.length = 0 then T ++ [⟨0, A.i, A.b, A.n⟩] else T) from rfl, hT2, hE2]
        have hc := C0.out
        rw [hT2, hE2] at hc
        subst hS2
        have hS2 : S = S := rfl
        have HC := Lib.hid hc
        clear hc
        clear hS2 hT2 hE2 C4 C5 C0 C1 C2
        go_enter Try.func22, Try.ntmps22
        go_wp2_with fail
        rw [HW.out trivial]
        go_wp2_with fail
        refine HC.out.mono ?_
        rintro r w2 ⟨va2, vc2, ta2, tn2, tc2, qa2, qn2, qc2, loc2, rfl, hd2, hg2⟩
        obtain ⟨Gs, hGs⟩ : ∃ Gs, S.f * s = Gs := ⟨_, rfl⟩
        rw [hGs]
        have HGS := Lib.hid (fun _ : True => hGs)
        have HD2 := Lib.hid hd2; have HG2 := Lib.hid hg2
        have z4 := (B4.out.grown hg2).look
        have p4 := (B4.out.grown hg2).open
        have SI := set_idx
        have SF := set_far
        clear hd2 hg2 hGs HC
        go_wp2_with fail
        refine bodyPost_ret (v := .tuple #[.agg #[.slice va2 nb vc2, .int .i64 (sz : Int), .slice ta2 tn2 tc2, .int .i64 (Gs : Int), .int .i64 (s : Int), .slice qa2 qn2 qc2, .int .i64 (most : Int)], .int .i64 E2]) ?_ rfl ?_
        · simp only [results]
          go_simp
        · exact refw_backG (HGS.out trivial) HD2.out (grown_trans HG.out HG2.out) (by omega) (by with_reducible (repeat (first | refine kset ?_ (by show _ = _; rfl) | refine kdrew ?_ | exact Kept.refl _ _))) ⟨rfl, rfl, rfl⟩
      · by_cases e1 : q = 1
        · subst e1
          rw [if_neg (show ¬ (1 : Int) = 4 by decide), if_neg (show ¬ (1 : Int) = 5 by decide), if_neg (show ¬ (1 : Int) = 0 by decide), if_pos (show (1 : Int) = 1 from rfl), if_neg (show ¬ (1 : Int) = 0 by decide), if_pos (show (1 : Int) = 1 from rfl)]
          obtain ⟨S2, hS2⟩ : ∃ S2, (S) = S2 := ⟨_, rfl⟩
          obtain ⟨T2, hT2⟩ : ∃ T2 : List WriteV, (if appE most A.b.length (seenV nb sz s S T).l.length = 0 then T ++ [⟨1, A.i, A.b, A.n⟩] else T) = T2 := ⟨_, rfl⟩
          obtain ⟨E2, hE2⟩ : ∃ E2 : Int, (appE most A.b.length (seenV nb sz s S T).l.length) = E2 := ⟨_, rfl⟩
          have HSTE := Lib.hid (fun _ : True => And.intro hS2 (And.intro hT2 hE2))
          rw [show ((S, if appE most A.b.length (seenV nb sz s S T).l.length = 0 then T ++ [⟨1, A.i, A.b, A.n⟩] else T)).1 = S from rfl, show ((S, if appE most A.b.length (seenV nb sz s S T).l.length = 0 then T ++ [⟨1, A.i, A.b, A.n⟩] else T)).2 = (if appE most A.b.length (seenV nb sz s S T).l.length = 0 then T ++ [⟨1, A.i, A.b, A.n⟩] else T) from rfl, hT2, hE2]
          have hc := C1.out
          rw [hT2, hE2] at hc
          subst hS2
          have hS2 : S = S := rfl
          have HC := Lib.hid hc
          clear hc
          clear hS2 hT2 hE2 C4 C5 C0 C1 C2
          go_enter Try.func22, Try.ntmps22
          go_wp2_with fail
          rw [HW.out trivial]
          go_wp2_with fail
          refine HC.out.mono ?_
          rintro r w2 ⟨va2, vc2, ta2, tn2, tc2, qa2, qn2, qc2, loc2, rfl, hd2, hg2⟩
          obtain ⟨Gs, hGs⟩ : ∃ Gs, S.f * s = Gs := ⟨_, rfl⟩
          rw [hGs]
          have HGS := Lib.hid (fun _ : True => hGs)
          have HD2 := Lib.hid hd2; have HG2 := Lib.hid hg2
          have z4 := (B4.out.grown hg2).look
          have p4 := (B4.out.grown hg2).open
          have SI := set_idx
          have SF := set_far
          clear hd2 hg2 hGs HC
          go_wp2_with fail
          refine bodyPost_ret (v := .tuple #[.agg #[.slice va2 nb vc2, .int .i64 (sz : Int), .slice ta2 tn2 tc2, .int .i64 (Gs : Int), .int .i64 (s : Int), .slice qa2 qn2 qc2, .int .i64 (most : Int)], .int .i64 E2]) ?_ rfl ?_
          · simp only [results]
            go_simp
          · exact refw_backG (HGS.out trivial) HD2.out (grown_trans HG.out HG2.out) (by omega) (by with_reducible (repeat (first | refine kset ?_ (by show _ = _; rfl) | refine kdrew ?_ | exact Kept.refl _ _))) ⟨rfl, rfl, rfl⟩
        · have hk23 : q = 2 ∨ q = 3 := by omega
          rw [if_neg e4, if_neg e5, if_neg e0, if_neg e1, if_neg e0, if_neg e1]
          obtain ⟨S2, hS2⟩ : ∃ S2, (S) = S2 := ⟨_, rfl⟩
          obtain ⟨T2, hT2⟩ : ∃ T2 : List WriteV, (T ++ [⟨q, A.i, A.b, A.n⟩]) = T2 := ⟨_, rfl⟩
          obtain ⟨E2, hE2⟩ : ∃ E2 : Int, ((0 : Int)) = E2 := ⟨_, rfl⟩
          have HSTE := Lib.hid (fun _ : True => And.intro hS2 (And.intro hT2 hE2))
          rw [show ((S, T ++ [⟨q, A.i, A.b, A.n⟩])).1 = S from rfl, show ((S, T ++ [⟨q, A.i, A.b, A.n⟩])).2 = (T ++ [⟨q, A.i, A.b, A.n⟩]) from rfl, hT2]
          have hc := C2.out q hk23
          rw [hT2] at hc
          subst hS2
          have hS2 : S = S := rfl
          have HC := Lib.hid hc
          have D4 : (q == 4) = false := beq_eq_false_iff_ne.2 e4
          have D5 : (q == 5) = false := beq_eq_false_iff_ne.2 e5
          clear hc e4 e5 e0 e1 hk23
          clear hS2 hT2 hE2 C4 C5 C0 C1 C2
          go_enter Try.func22, Try.ntmps22
          go_wp2_with fail
          rw [HW.out trivial]
          go_wp2_with fail
          refine HC.out.mono ?_
          rintro r w2 ⟨va2, vc2, ta2, tn2, tc2, qa2, qn2, qc2, loc2, rfl, hd2, hg2⟩
          obtain ⟨Gs, hGs⟩ : ∃ Gs, S.f * s = Gs := ⟨_, rfl⟩
          rw [hGs]
          have HGS := Lib.hid (fun _ : True => hGs)
          have HD2 := Lib.hid hd2; have HG2 := Lib.hid hg2
          have z4 := (B4.out.grown hg2).look
          have p4 := (B4.out.grown hg2).open
          have SI := set_idx
          have SF := set_far
          clear hd2 hg2 hGs HC
          go_wp2_with fail
          refine bodyPost_ret (v := .tuple #[.agg #[.slice va2 nb vc2, .int .i64 (sz : Int), .slice ta2 tn2 tc2, .int .i64 (Gs : Int), .int .i64 (s : Int), .slice qa2 qn2 qc2, .int .i64 (most : Int)], .int .i64 0]) ?_ rfl ?_
          · simp only [results]
            go_simp
          · exact refw_backG (HGS.out trivial) HD2.out (grown_trans HG.out HG2.out) (by omega) (by with_reducible (repeat (first | refine kset ?_ (by show _ = _; rfl) | refine kdrew ?_ | exact Kept.refl _ _))) ⟨rfl, rfl, rfl⟩
end

end Go.Proofs.Ytkemocbifancfaa
