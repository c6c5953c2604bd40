/-
  A disk's copy.
-/
import Derived.Test.YtkemocbifancfaaDPlayed
namespace Go.Proofs.Ytkemocbifancfaa
open Go.RowKit
set_option maxRecDepth 100000

theorem els_flat {w : World} {k b o : Nat} {M : List (List Value)} (hk : 0 < k) (h : Elems w k (some ⟨b, o, none⟩) M) (hc : ∀ c ∈ M, c.length = k) : ∀ j u, M.flatten[j]? = some u → w.cell? ⟨b, o + j, none⟩ = some u := by
  intro j u hu
  have hlen := flatten_len _ hc
  have hj : j < M.length * k := by
    have := (List.getElem?_eq_some_iff.1 hu).1
    rw [hlen] at this
    exact this
  have hi : j / k < M.length := Nat.div_lt_of_lt_mul (by rw [Nat.mul_comm]; exact hj)
  have hm := Nat.mod_lt j hk
  have hd : j = (j / k) * k + j % k := by rw [Nat.mul_comm]; exact (Nat.div_add_mod j k).symm
  rw [hd, flatten_get _ hc (j / k) hi (j % k) hm] at hu
  obtain ⟨b', o', e, h0⟩ := h (j / k) hi
  cases e
  have h1 := h0 (j % k) hm
  rw [hu] at h1
  rw [← h1]
  congr 1
  rw [Addr.mk.injEq]
  exact ⟨rfl, by omega, rfl⟩
/-- 'append(s, l...)' of a row of structs -/
theorem wpList_append_els {ops : Array Oper} {rest : List Oper} {o : Oper} {a : Act} {w : World} {Q : Exit → Act → World → Prop} (hgd : o.guard = none) (s x : Operand) (TS TE : TypeId)
    (ho : o.op = .call { callee := .builtin .append, args := #[s, x], argTypes := #[TS, TS] })
    (hTS : Try.prog.underlying TS = some (.slice TE)) (z : Value) (k bytes : Nat) (hinfo : (Try.prog.info? TE).map (fun i => (i.zero, i.size, i.bytes)) = some (some z, k, bytes)) (hz : z.cells.size = k) (hk : 0 < k)
    {base : Nat} {v : Value} {K M : List (List Value)} (hown : OwnR w base TE k v K) (hs : a.eval s = v)
    {ao : Option Addr} {m c : Nat} (hx : a.eval x = .slice ao m c) (hM : Elems w k ao M) (hMk : ∀ c ∈ M, c.length = k) (hone : ∀ c ∈ M, ∀ u ∈ c, u.oneCell' = true) (hl : M.length = m) (hm : 0 < m) (hsm : K.length + m ≤ 1000000) (hb : (K.length + m) * bytes ≤ 140737488355328) (hbase : base ≤ w.heap.size)
    (h : ∀ g cap w', OwnR w' base TE k (.slice (some ⟨g, 0, none⟩) (K.length + m) cap) (K ++ M) → w.grownBy w' v.ownBlock → (v.ownBlock = some g ∨ w.heap.size ≤ g) → wpList Try.prog ops Q rest (a.put o.dst (.slice (some ⟨g, 0, none⟩) (K.length + m) cap)) w') :
    wpList Try.prog ops Q (o :: rest) a w := by
  obtain ⟨i, hi, hz0, hz1, hz2⟩ := info_parts hinfo
  obtain ⟨b, q, e, _⟩ := hM 0 (by omega)
  subst e
  refine wpList_append_lies w hgd s x TS ho base TE i z k bytes hTS hi hz0 hz1 hz2 hz hk v K.length K.flatten hs hown.2 ⟨b, q, none⟩ m c M.flatten hx (by rw [flatten_len _ hMk, hl]) (fun j u hu => ?_) (fun u hu => ?_) hm (by unfold maxLen; omega) hb hbase w.heap.size rfl ?_
  · rw [Addr.add_lit]; exact els_flat hk hM hMk j u hu
  · obtain ⟨c, hc, hu⟩ := List.mem_flatten.1 hu
    exact hone c hc u hu
  intro g cap w' h1 h2 h3 _
  refine h g cap w' ⟨fun d hd => ?_, ?_⟩ h2 (h3.imp id (fun e => by omega))
  · rcases List.mem_append.1 hd with hd | hd
    · exact hown.1 d hd
    · exact hMk d hd
  · rw [List.length_append, List.flatten_append, hl]
    exact h1
def TodoPost (w : World) (L : List (List Value)) (r : Ending) (w' : World) : Prop :=
  ∃ v, r = .returned v ∧ OwnR w' 0 74 4 v L ∧ (∀ q, v.ownBlock = some q → w.heap.size ≤ q) ∧ w.grownBy w' none
theorem OwnR.base0 {w : World} {B : Nat} {T : TypeId} {k : Nat} {v : Value} {L : List (List Value)} (h : OwnR w B T k v L) : OwnR w 0 T k v L := by
  refine ⟨h.1, h.2.1, ?_⟩
  rcases h.2.2 with h2 | ⟨g, cap, cur, hv, hb, r⟩
  · exact .inl h2
  · exact .inr ⟨g, cap, cur, hv, Nat.zero_le _, r⟩
theorem todo_one (T : List WriteV) (xs : List Loc) : ∀ c ∈ todoCells T xs, ∀ u ∈ c, u.oneCell' = true := by
  intro c hc u hu
  unfold todoCells at hc
  obtain ⟨i, hi, rfl⟩ := List.mem_iff_getElem.1 hc
  rw [List.getElem_zipWith] at hu
  simp only [wCells, List.mem_cons, List.not_mem_nil, or_false] at hu
  rcases hu with rfl | rfl | rfl | rfl <;> rfl
set_option maxHeartbeats 1600000 in
theorem todo_clone (a : Option Addr) (n c : Nat) (L : List (List Value)) (w : World) (hL : OwnR w 0 74 4 (.slice a n c) L) (hone : ∀ c ∈ L, ∀ u ∈ c, u.oneCell' = true) (hsm : n ≤ 1000000) :
    Calls Try.prog 37 #[.slice a n c] w (TodoPost w L) := by
  obtain ⟨a', c', e⟩ := hL.len
  have hn : L.length = n := by cases e; rfl
  clear e
  cases a with
  | none =>
    obtain rfl : L = [] := by
      cases L with
      | nil => rfl
      | cons x L => obtain ⟨b, o, e, _⟩ := hL.elems 0 (by simp); cases e
    clear hL hn hsm hone
    have hnil := fun u => Go.Lib.run_eql_slice_nil (P := Try.prog) u 69 74 none n c 0 0 Try.underlying69
    go_enter Try.func37, Try.ntmps37
    go_wp2_with fail
    go_ret
    exact ⟨_, rfl, OwnR.nil _ _ _ _, fun q e => by simp [Value.ownBlock] at e, World.grownBy.refl _ _⟩
  | some ad =>
    have HL := Lib.hid hL; have HN := Lib.hid hn; have HSM := Lib.hid hsm; have HONE := Lib.hid hone
    have hA := World.grownBy_alloc w (.cells #[] 74) none
    have ho0 : OwnR (w.alloc (.cells #[] 74)) w.heap.size 74 4 (.slice (some ⟨w.heap.size, 0, none⟩) 0 0) [] :=
      ⟨fun _ h => (by cases h), by simp, .inr ⟨w.heap.size, 0, #[], rfl, Nat.le_refl _, heap_alloc_new _ _, Nat.le_refl _, by simp [maxLen], rfl, rfl⟩⟩
    have HA := Lib.hid hA; have HO := Lib.hid ho0
    clear hL hn hsm hA ho0 hone
    have hnil := fun u => Go.Lib.run_eql_slice_nil (P := Try.prog) u 69 74 (some ad) n c 0 0 Try.underlying69
    by_cases h0 : n = 0
    · subst h0
      obtain rfl : L = [] := List.length_eq_zero_iff.1 HN.out
      go_enter Try.func37, Try.ntmps37
      go_wp2_with fail
      go_ret
      exact ⟨_, rfl, HO.out.base0, fun q e => (HO.out.lt q e).1, HA.out⟩
    · go_enter Try.func37, Try.ntmps37
      go_wp2_with (at_builtin; refine wpList_append_els (o := ⟨some 7, _, _, _, _, _⟩) (K := []) rfl _ _ 69 74 rfl Try.underlying69 _ 4 48 info_write rfl (by decide) HO.out rfl rfl (HL.out.elems.grown HL.out.1 HA.out) HL.out.1 HONE.out HN.out (by omega) (by simpa using HSM.out) (by have := HSM.out; simp only [List.length_nil]; omega) HA.out.size ?_)
      intro g cap w' ho hg hk
      have hgN : w.grownBy w' none := grown_new HA.out (Nat.le_refl _) hg
      have HO' := Lib.hid ho; have HGN := Lib.hid hgN
      clear ho hg hgN hk
      go_wp2_with fail
      go_ret
      exact ⟨_, rfl, (show OwnR w' w.heap.size 74 4 _ L by simpa using HO'.out).base0, fun q e => (HO'.out.lt q e).1, HGN.out⟩

def CopyDPost (w : World) (D : DId) (nb sz N s most : Nat) (S : FaceV) (T : List WriteV) (r : Ending) (w' : World) : Prop :=
  ∃ D' : DId, r = .returned (.pointer (some ⟨D'.d, 0, none⟩)) ∧ DiskAt w' D' nb sz N s most S T ∧ (∀ k, DY D' k → w.heap.size ≤ k) ∧ D'.loc = D.loc ∧ w.grownBy w' none
set_option maxHeartbeats 3200000 in
theorem disk_copy {w : World} {D : DId} {nb sz N s most : Nat} {S : FaceV} {T : List WriteV} (h : DiskAt w D nb sz N s most S T) (hT : T.length ≤ 1000) :
    Calls Try.prog 15 #[.pointer (some ⟨D.d, 0, none⟩)] w (CopyDPost w D nb sz N s most S T) := by
  have HS := Lib.hid (disk_seen h)
  have HC1 := Lib.hid (face_copy D.p 0 (h.now.cell 0 rfl) (h.now.cell 1 rfl) h.fi)
  have HC2 := Lib.hid (fun u (hu : w.grownBy u none) => face_copy D.d 1 ((h.grown hu).box.cell 1 rfl) ((h.grown hu).box.cell 2 rfl) (h.grown hu).fj)
  obtain ⟨ta, tc, htv⟩ := h.todo.len
  rw [todo_len _ _ h.lens] at htv
  have HCL := Lib.hid (fun u (hu : w.grownBy u none) => todo_clone ta T.length tc (todoCells T D.loc) u (by rw [← htv]; exact (h.grown hu).todo) (todo_one T D.loc) (by omega))
  have hbx := h.box
  rw [htv] at hbx
  have HBX := Lib.hid hbx
  have y0 := hbx.look
  have HH := Lib.hid h
  obtain ⟨d, hd⟩ : ∃ d, D.d = d := ⟨_, rfl⟩
  rw [hd] at y0 HBX HC2 HS ⊢
  have HD := Lib.hid (fun _ : True => hd)
  obtain ⟨tn, htn⟩ : ∃ tn, T.length = tn := ⟨_, rfl⟩
  rw [htn] at y0 HBX HCL
  clear h hT htv hbx hd htn
  go_enter Try.func15, Try.ntmps15
  go_wp2_with fail
  refine HS.out.mono ?_
  rintro r w1 ⟨rfl, rfl⟩
  go_wp2_with fail
  refine HC1.out.mono ?_
  rintro r w2 ⟨i, rfl, hi, hin, hg2⟩
  have hga := World.grownBy_alloc w2 (.cells #[.pointer (some ⟨i.gv, 0, none⟩), .pointer (some ⟨i.gt, 0, none⟩)] 68) none
  have hpx := Box.new w2 68 [.pointer (some ⟨i.gv, 0, none⟩), .pointer (some ⟨i.gt, 0, none⟩)] w2.heap.size rfl
  have HI := Lib.hid hi; have HIN := Lib.hid hin; have HG2 := Lib.hid hg2
  clear hi hin y0
  have y0 := look_atB (HBX.out.grown hg2)
  clear hg2 y0
  go_wp2_with fail
  obtain ⟨w3, hw3⟩ : ∃ u, w2.alloc (.cells #[.pointer (some ⟨i.gv, 0, none⟩), .pointer (some ⟨i.gt, 0, none⟩)] 68) = u := ⟨_, rfl⟩
  have hz3 : w3.heap.size = w2.heap.size + 1 := by rw [← hw3]; simp
  have hpx' : Box w3 w2.heap.size 68 [.pointer (some ⟨i.gv, 0, none⟩), .pointer (some ⟨i.gt, 0, none⟩)] := by rw [← hw3]; exact hpx
  rw [hw3] at hga ⊢
  have hg3 := grown_trans HG2.out hga
  have HPX := Lib.hid hpx'; have HZ3 := Lib.hid (fun _ : True => hz3); have HGA := Lib.hid hga; have HG3 := Lib.hid hg3
  have HC3 := Lib.hid (fun u (hu : w3.grownBy u none) => HC2.out u (grown_trans hg3 hu))
  have HC4 := Lib.hid (fun u (hu : w3.grownBy u none) => HCL.out u (grown_trans hg3 hu))
  have y0 := look_atB (HBX.out.grown hg3)
  have hS0 : w3.grownBy w3.drew none := grown_drew1 _
  have hS1 : w3.grownBy w3 none := World.grownBy.refl _ _
  clear hpx hpx' hz3 hw3 hga hg3 HC1 HC2 HCL
  go_region_held_law (fun w' => w3.grownBy w' none)
    (with_reducible (first | assumption | exact grown_drew (by assumption) | exact keepA (by assumption) | exact grown_drew (keepA (by assumption))))
    (first
      | (go_at_call 36; refine (HC3.out _ (by with_reducible assumption)).mono ?_; rintro e w4 ⟨j, rfl, hj, hjn, hg4⟩; have hS2 := keepT hg4 (by with_reducible assumption))
      | (go_at_call 37; refine (HC4.out _ (by with_reducible assumption)).mono ?_; rintro e w5 ⟨v, rfl, hv, hvn, hg5⟩; obtain ⟨va, vc, hvv⟩ := hv.len; subst hvv; have hS3 := keepT hg5 (by with_reducible assumption)))
  have hjn' : ∀ k, FX j k → w3.heap.size ≤ k := hjn
  have HJ := Lib.hid hj; have HJN := Lib.hid hjn'; have HV := Lib.hid hv; have HVN := Lib.hid hvn; have HG5 := Lib.hid hg5; have HS3 := Lib.hid hS3; have HZ5 := Lib.hid (fun _ : True => hg5.size); have HS2 := Lib.hid hS2
  clear hjn hjn' hj hv hvn hg5 hS3 hS2 hg4 y0 hS0 hS1
  go_wp2_with fail
  go_ret
  have z1 := HG2.out.size
  have z2 := HZ3.out trivial
  have z3 := HS2.out.size
  have z4 := HZ5.out trivial
  have hil := HI.out.low
  have hjl := HJ.out.low
  have hin := HIN.out
  have hjn := HJN.out
  have hvn := HVN.out
  have hvl := HV.out.lt
  have hgb := World.grownBy_alloc w5 (.cells #[.pointer (some ⟨w2.heap.size, 0, none⟩), .pointer (some ⟨j.gv, 0, none⟩), .pointer (some ⟨j.gt, 0, none⟩), .slice va (todoCells T D.loc).length vc, .int .i64 (most : Int)] 71) none
  have hdb := Box.new w5 71 [.pointer (some ⟨w2.heap.size, 0, none⟩), .pointer (some ⟨j.gv, 0, none⟩), .pointer (some ⟨j.gt, 0, none⟩), .slice va (todoCells T D.loc).length vc, .int .i64 (most : Int)] w5.heap.size rfl
  have hend := grown_trans HG3.out (grown_trans HS3.out hgb)
  have hlows := HH.out.lows
  have hm := DiskAt.made (b := w1.heap.size) (T := T) (S := S) (nb := nb) (sz := sz) (N := N) (s := s) (loc := D.loc) (tv := .slice va (todoCells T D.loc).length vc) (most := most) (p := w2.heap.size) (d := w5.heap.size) HJ.out (fun k hk => by have := hjn k hk; omega) HI.out (fun k hk => hin k hk) (fun k h1 h2 => by have := hil k h1; have := hjn k h2; omega) (grown_trans HG5.out hgb) (grown_trans HGA.out (grown_trans HS3.out hgb))
    (HPX.out.grown (grown_trans HS3.out hgb)) ⟨fun e => by have := hil _ e; omega, fun e => by have := hjn _ e; omega, by omega⟩ HV.out hgb (fun k e => by
      have e1 := hvn k e
      have e2 := (hvl k e).2
      exact ⟨by omega, by omega, by omega, fun h => by have := hil _ h; omega, fun h => by have := hjl _ h; omega⟩) hdb ⟨fun e => by have := hil _ e; omega, fun e => by have := hjl _ e; omega, by omega, by omega⟩ HH.out.lens (fun q h1 h2 => ⟨(HH.out.locs q h1 h2).inb.grown hend, (HH.out.locs q h1 h2).n⟩) (fun x hx ad e => hlows _ ⟨x, hx, ad, e, rfl⟩) hend.size
  exact ⟨_, rfl, hm.1, hm.2, rfl, hend⟩

end Go.Proofs.Ytkemocbifancfaa
