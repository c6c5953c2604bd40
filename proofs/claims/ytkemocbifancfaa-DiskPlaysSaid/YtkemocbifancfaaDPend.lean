/-
  A write is noted: what is seen, and what a disk's methods tell.
-/
import Derived.Test.YtkemocbifancfaaDDisk
namespace Go.Proofs.Ytkemocbifancfaa
open Go.RowKit
set_option maxRecDepth 100000

def ClonePost (w : World) (l : List UInt8) (r : Ending) (w' : World) : Prop :=
  ∃ a n c, r = .returned (.slice a n c) ∧ InB w' a n c l ∧ (∀ ad, a = some ad → w.heap.size ≤ ad.block ∧ ad.block < w'.heap.size) ∧ w.grownBy w' none
theorem InB.of_own {w : World} {B : Nat} {a : Option Addr} {n c : Nat} {l : List UInt8} (h : OwnB w B (.slice a n c) l) : InB w a n c l := by
  have s := SlB.of_own h
  exact ⟨s.len, s.cap, s.max, s.nil0, s.rb⟩
set_option maxHeartbeats 1600000 in
theorem sl_clone_any (ao : Option Addr) (n c : Nat) (l : List UInt8) (w : World) (h : InB w ao n c l) (hsm : n ≤ 1000000) :
    Calls Try.prog 55 #[.slice ao n c] w (ClonePost w l) := by
  cases ao with
  | none =>
    have hc := h.nil rfl
    have hl := h.len_eq
    have hle := h.cap_le
    obtain rfl : n = 0 := by omega
    subst hc
    have hl0 := List.eq_nil_of_length_eq_zero hl
    subst hl0
    clear h hl hle hsm
    have hnil := fun u => Go.Lib.run_eql_slice_nil (P := Try.prog) u 23 5 none 0 0 0 0 Try.underlying23
    go_enter Try.func55, Try.ntmps55
    go_wp2_with fail
    go_ret
    exact ⟨none, 0, 0, rfl, ⟨rfl, Nat.le_refl _, Nat.zero_le _, fun _ => rfl, RB.nil _ _⟩, fun ad e => (by cases e), World.grownBy.refl _ _⟩
  | some ad =>
    have hA := World.grownBy_alloc w (.cells #[] 5) none
    have ho0 : OwnB (w.alloc (.cells #[] 5)) w.heap.size (.slice (some ⟨w.heap.size, 0, none⟩) 0 0) [] := OwnB.made w #[] 0 (Nat.zero_le _) rfl
    have HA := Lib.hid hA; have HO := Lib.hid ho0
    have HR := Lib.hid (h.reads.oldg hA); have HN := Lib.hid (fun _ : True => h.len_eq); have HSM := Lib.hid hsm
    clear h hsm hA ho0
    have hnil := fun u => Go.Lib.run_eql_slice_nil (P := Try.prog) u 23 5 (some ad) n c 0 0 Try.underlying23
    go_enter Try.func55, Try.ntmps55
    go_wp2_with (at_builtin; refine wpList_append_bytes (o := ⟨some 7, _, _, _, _, _⟩) rfl _ _ rfl w.heap.size _ [] rfl HO.out _ n c l rfl HR.out (HN.out trivial) (fun h => by cases h) (by have := HSM.out; simp; omega) HA.out.size ?_)
    intro v w' ho hg
    have HO2 := Lib.hid ho
    have HG2 := Lib.hid (show w.grownBy w' none from grown_row HA.out (fun z h => (HO.out.lt z h).1) hg)
    clear ho hg
    go_wp2_with fail
    go_ret
    obtain ⟨a', n', c', rfl, hn'⟩ := HO2.out.len
    exact ⟨a', n', c', rfl, InB.of_own HO2.out, fun ad e => by subst e; exact HO2.out.lt _ rfl, HG2.out⟩
theorem info_write : (Try.prog.info? 74).map (fun i => (i.zero, i.size, i.bytes)) = some (some (.agg #[.int .i64 0, .int .i64 0, .slice none 0 0, .int .i64 0]), 4, 48) := by kernel_rfl
theorem todo_len (T : List WriteV) (xs : List Loc) (h : xs.length = T.length) : (todoCells T xs).length = T.length := by
  unfold todoCells
  rw [List.length_zipWith, h, Nat.min_self]
theorem todo_snoc (T : List WriteV) (xs : List Loc) (h : xs.length = T.length) (W : WriteV) (x : Loc) : todoCells (T ++ [W]) (xs ++ [x]) = todoCells T xs ++ [wCells W x] := by
  unfold todoCells
  rw [List.zipWith_append h.symm]
  rfl
theorem todo_get (T : List WriteV) (xs : List Loc) {q : Nat} (h1 : q < T.length) (h2 : q < xs.length) (h : q < (todoCells T xs).length) : (todoCells T xs)[q] = wCells T[q] xs[q] := by
  simp only [todoCells, List.getElem_zipWith]
/-- what an act leaves: another error, other writes that are sure, other writes that are pending -/
def OpPost (w : World) (D : DId) (nb sz N s most : Nat) (S' : FaceV) (T' : List WriteV) (v : Value) (r : Ending) (w' : World) : Prop :=
  r = .returned v ∧ ∃ D' : DId, DiskAt w' D' nb sz N s most S' T' ∧ D'.d = D.d ∧ (∀ k, LX D' k → LX D k ∨ w.heap.size ≤ k) ∧ (∀ k, DY D' k → DY D k ∨ w.heap.size ≤ k) ∧ Kept (DY D) w w'
theorem OpPost.idle {w w' : World} {D : DId} {nb sz N s most : Nat} {S : FaceV} {T : List WriteV} {v : Value} (h : DiskAt w D nb sz N s most S T) (hg : w.grownBy w' none) : OpPost w D nb sz N s most S T v (.returned v) w' :=
  ⟨rfl, D, h.grown hg, rfl, fun _ h => .inl h, fun _ h => .inl h, Kept.of_grown hg⟩
theorem OpPost.re {w w' w1 : World} {D : DId} {nb sz N s most : Nat} {S : FaceV} {T : List WriteV} {v u : Value} {r : Ending} (hg : w.grownBy w1 none) (h : OpPost w1 D nb sz N s most S T v r w') : OpPost w D nb sz N s most S T u (.returned u) w' := by
  obtain ⟨_, D', h1, h2, h3, h4, h5⟩ := h
  have hs := hg.size
  exact ⟨rfl, D', h1, h2, fun k hk => (h3 k hk).imp id (fun e => by omega), fun k hk => (h4 k hk).imp id (fun e => by omega), (Kept.of_grown hg).trans h5⟩
/-- what a disk is behind the three steps of a write: done, noted, stored -/
theorem DiskAt.pend {w w3 w4 w5 : World} {D : DId} {nb sz N s most : Nat} {S : FaceV} {T : List WriteV} {W : WriteV} (h : DiskAt w D nb sz N s most S T) (hg3 : w.grownBy w3 none) {a : Option Addr} {n c : Nat} (hx : InB w3 a n c W.b) (hxl : ∀ ad, a = some ad → w.heap.size ≤ ad.block ∧ ad.block < w3.heap.size) (hn : -9223372036854775808 ≤ W.n)
    {i' : FId} (hf : FaceAt w4 i' nb sz N s (doV nb sz s (seenV nb sz s S T) W false 0)) (e1 : i'.gv = D.i.gv) (e2 : i'.gt = D.i.gt) (hi : ∀ k, FX i' k → FX D.i k ∨ w3.heap.size ≤ k) (hk : Kept (FX D.i) w3 w4)
    {w4' : World} (hg4 : w4.grownBy w4' none) {tv : Value} (ho : OwnR w5 0 74 4 tv (todoCells T D.loc ++ [wCells W (a, n, c)])) (hg5 : w4'.grownBy w5 D.tv.ownBlock) (htv : ∀ k, tv.ownBlock = some k → D.tv.ownBlock = some k ∨ w4'.heap.size ≤ k) :
    OpPost w D nb sz N s most S (T ++ [W]) (.tuple #[]) (.returned (.tuple #[])) (w5.setCell ⟨D.d, 3, none⟩ tv) := by
  have hz3 := hg3.size; have hz4 := hk.size; have hz4' := hg4.size; have hz5 := hg5.size
  have h3 := h.grown hg3
  obtain ⟨s1, s2, s3, s4, s5⟩ := h.sep
  have hrow := h.row
  have hlow := h.low
  have hdl := hlow _ (.inl rfl)
  have hpl := hlow _ (.inr (.inl rfl))
  -- what the face's step leaves
  have b4 := h3.box.keptX hk s2
  have n4 := h3.now.keptX hk s3
  have j4 := h3.fj.keptX hk (fun k e1 e2 => h.apart k e2 e1)
  have t4 := h3.todo.keptX hk (fun k e => (hrow k e).2.2.1)
  -- the row's step
  have hd5 : D.tv.ownBlock ≠ some D.d := fun e => (hrow _ e).1 rfl
  have hp5 : D.tv.ownBlock ≠ some D.p := fun e => (hrow _ e).2.1 rfl
  have hkr : Kept (fun k => D.tv.ownBlock = some k) w4' w5 := by
    cases e : D.tv.ownBlock with
    | none => rw [e] at hg5; exact Kept.of_grown hg5
    | some q => rw [e] at hg5; exact Kept.of_row hg5 rfl
  have hi5 : ∀ k, FX i' k → D.tv.ownBlock ≠ some k := fun k hx e => by
    rcases hi k hx with h1 | h1
    · exact (hrow k e).2.2.1 h1
    · have := hlow k (.inr (.inr (.inr (.inr e)))); omega
  have hxi : ∀ k, FX i' k → k ≠ D.d ∧ k ≠ D.p ∧ ¬ FX D.j k := fun k hx => by
    rcases hi k hx with h1 | h1
    · exact ⟨fun e => s2 (e ▸ h1), fun e => s3 (e ▸ h1), h.apart k h1⟩
    · exact ⟨by omega, by omega, fun e => by have := h.fj.low k e; omega⟩
  have b5 := (b4.grown hg4).kept hg5 hd5
  have n5 := (n4.grown hg4).kept hg5 hp5
  have i5 := (hf.grown hg4).keptX hkr (fun k hx e => hi5 k hx e)
  have j5 := (j4.grown hg4).keptX hkr (fun k hx e => (hrow k e).2.2.2 hx)
  -- the store
  have hgs := grown_setCell w5 D.d 3 tv
  have hks : Kept (fun k => k = D.d) w5 (w5.setCell ⟨D.d, 3, none⟩ tv) := Kept.of_row hgs rfl
  have htd : ∀ k, tv.ownBlock = some k → k ≠ D.d ∧ k ≠ D.p ∧ ¬ FX i' k ∧ ¬ FX D.j k := fun k e => by
    rcases htv k e with h1 | h1
    · exact ⟨(hrow k h1).1, (hrow k h1).2.1, fun hx => hi5 k hx h1, (hrow k h1).2.2.2⟩
    · exact ⟨by omega, by omega, fun hx => by have := hf.low k hx; omega, fun hx => by have := h.fj.low k hx; omega⟩
  have hkall : Kept (DY D) w (w5.setCell ⟨D.d, 3, none⟩ tv) :=
    ((((Kept.of_grown hg3).trans (hk.more (fun k e => .inr (.inr (.inl e))))).trans (Kept.of_grown hg4)).trans (hkr.more (fun k e => .inr (.inr (.inr (.inr e)))))).trans (hks.more (fun k e => .inl e))
  have hY : ∀ k, DY { D with i := i', tv := tv, loc := D.loc ++ [(a, n, c)] } k → DY D k ∨ w.heap.size ≤ k := fun k hk' => by
    rcases hk' with e | e | e | e | e
    · exact .inl (.inl e)
    · exact .inl (.inr (.inl e))
    · exact (hi k e).imp (fun e => .inr (.inr (.inl e))) (fun e => by omega)
    · exact .inl (.inr (.inr (.inr (.inl e))))
    · exact (htv k e).imp (fun e => .inr (.inr (.inr (.inr e)))) (fun e => by omega)
  have hLX : ∀ k, LX { D with i := i', tv := tv, loc := D.loc ++ [(a, n, c)] } k → LX D k ∨ (w.heap.size ≤ k ∧ k < w3.heap.size) := fun k hk' => by
    obtain ⟨y, hy, ad, e3, e4⟩ := hk'
    rcases List.mem_append.1 hy with hy | hy
    · exact .inl ⟨y, hy, ad, e3, e4⟩
    · rw [List.mem_singleton] at hy
      subst hy
      rw [← e4]
      exact .inr (hxl ad e3)
  refine ⟨rfl, { D with i := i', tv := tv, loc := D.loc ++ [(a, n, c)] }, ⟨?_, ?_, ?_, ?_, ?_, ?_, ?_, ⟨s1, fun e => (hxi _ e).1 rfl, fun e => (hxi _ e).2.1 rfl, s4, s5⟩, fun k hx => (hxi k hx).2.2, htd, fun k hk' => ?_, fun k hk' hy => ?_⟩, rfl, fun k hk' => (hLX k hk').imp id (fun e => e.1), hY, hkall⟩
  · exact b5.set 3 tv
  · rw [e1, e2]
    exact n5.kept hgs (by simpa using s1)
  · rw [seenV_snoc]
    exact i5.keptX hks (fun k hx e => (hxi k hx).1 e)
  · exact j5.keptX hks (fun k hx e => s4 (e ▸ hx))
  · rw [todo_snoc _ _ h.lens]
    exact ho.keptX hks (fun k e1 e2 => (htd k e1).1 e2)
  · rw [List.length_append, List.length_append, h.lens]; rfl
  · intro q h1 h2
    rw [List.length_append, List.length_singleton] at h1
    by_cases hq : q < T.length
    · have l := (h.locs q hq (by rw [h.lens]; exact hq)).keptX hkall hY
      simp only [List.getElem_append_left hq, List.getElem_append_left (show q < D.loc.length by rw [h.lens]; exact hq)]
      exact l
    · obtain rfl : q = T.length := by omega
      have e1 : (T ++ [W])[T.length] = W := by simp
      have e2 : (D.loc ++ [(a, n, c)])[T.length]'(by rw [List.length_append, h.lens, List.length_singleton]; omega) = (a, n, c) := by
        rw [List.getElem_append_right (by rw [h.lens]; exact Nat.le_refl _)]
        simp
      simp only [e1, e2]
      have hx3 : RX w3 (DY D) a W.b := RX.of_rb hx.reads (fun ad e _ hk' => by have := (hxl ad e).1; have := hlow _ hk'; omega)
      have hk3 : Kept (DY D) w3 (w5.setCell ⟨D.d, 3, none⟩ tv) := (((hk.more (fun k e => .inr (.inr (.inl e)))).trans (Kept.of_grown hg4)).trans (hkr.more (fun k e => .inr (.inr (.inr (.inr e)))))).trans (hks.more (fun k e => .inl e))
      have l : LocAt w3 (DY D) (a, n, c) W := ⟨hx, hx3, hn⟩
      refine l.keptX hk3 (fun k hk' => ?_)
      rcases hk' with e | e | e | e | e
      · exact .inl (.inl e)
      · exact .inl (.inr (.inl e))
      · exact (hi k e).imp (fun e => .inr (.inr (.inl e))) id
      · exact .inl (.inr (.inr (.inr (.inl e))))
      · exact (htv k e).imp (fun e => .inr (.inr (.inr (.inr e)))) (fun e => by omega)
  · have hsz := hkall.size
    have hsz2 : w3.heap.size ≤ (w5.setCell ⟨D.d, 3, none⟩ tv).heap.size := by have := hks.size; omega
    rcases hLX k hk' with e | e
    · have := h.lows k e; omega
    · omega
  · have hY3 : DY D k ∨ w3.heap.size ≤ k := by
      rcases hy with e | e | e | e | e
      · exact .inl (.inl e)
      · exact .inl (.inr (.inl e))
      · exact (hi k e).imp (fun e => .inr (.inr (.inl e))) id
      · exact .inl (.inr (.inr (.inr (.inl e))))
      · exact (htv k e).imp (fun e => .inr (.inr (.inr (.inr e)))) (fun e => by omega)
    rcases hLX k hk' with e | e
    · rcases hY3 with e' | e'
      · exact h.own k e e'
      · have := h.lows k e; omega
    · rcases hY3 with e' | e'
      · have := hlow k e'; omega
      · omega

end Go.Proofs.Ytkemocbifancfaa
