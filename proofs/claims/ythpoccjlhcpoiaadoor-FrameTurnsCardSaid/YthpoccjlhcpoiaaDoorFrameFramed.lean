/-
  'framed': payloads as frames, one behind another.
-/
import Derived.Test.YthpoccjlhcpoiaaDoorFrameScan
import Derived.Test.YthpoccjlhcpoiaaDoorFrameArgs
namespace Go.Proofs.YthpoccjlhcpoiaaDoor
open Go.RowKit

theorem step_append_bytes2 {ops : Array Oper} {o : Oper} {a : Act} {w : World} {K : Act → World → Prop} {Q : Exit → Act → World → Prop} {E : Prop} (hgd : o.guard = none) (s x : Operand)
    (ho : o.op = .call { callee := .builtin .append, args := #[s, x], argTypes := #[22, 22] })
    (base : Nat) (v : Value) (l : List UInt8) (hs : a.eval s = v) (hown : OwnB w base v l)
    (ao : Option Addr) (m c : Nat) (src : List UInt8) (hx : a.eval x = .slice ao m c) (hr : RB w ao src) (hm : src.length = m)
    (hbytes : l.length + m ≤ 140737488355328) (hbase : base ≤ w.heap.size)
    (h : ∀ v' w', OwnB w' base v' (l ++ src) → w.grownBy w' v.ownBlock → (∀ k, v'.ownBlock = some k → v.ownBlock = some k ∨ w.heap.size ≤ k) → K (a.put o.dst v') w') :
    if Region.wanted o (yielded ops a.tmps) = true then Oper.wp Tryd.prog o a w K Q else E := by
  have hw : Region.wanted o (yielded ops a.tmps) = true := by simp [Region.wanted, hgd]
  rw [if_pos hw]
  exact wp_append_bytes2 s x ho base v l hs hown ao m c src hx hr hm hbytes hbase h

theorem info_int : (Tryd.prog.info? 3).map (fun i => (i.zero, i.size, i.bytes)) = some (some (.int .i64 0), 1, 8) := by kernel_rfl

/-- may a payload be framed? -/
def fits (p : List UInt8) : Bool := decide (1 ≤ p.length) && decide (p.length ≤ 512)
/-- the payloads of the first k that can be framed -/
def goods (A : Nat → SliceV) : Nat → List (List UInt8)
  | 0 => []
  | k + 1 => if fits (A k).b then goods A k ++ [(A k).b] else goods A k
/-- frames, one behind another -/
def allF (ps : List (List UInt8)) : List UInt8 := ps.flatMap frameB
/-- where each one ends -/
def endsF (ps : List (List UInt8)) : List Nat := (List.range ps.length).map fun i => (allF (ps.take (i + 1))).length

theorem goods_length (A : Nat → SliceV) (k : Nat) : (goods A k).length ≤ k := by
  induction k with
  | zero => simp [goods]
  | succ k ih =>
    rw [goods]
    split
    · rw [List.length_append, List.length_singleton]; omega
    · omega
theorem goods_fits (A : Nat → SliceV) (k : Nat) : ∀ p ∈ goods A k, fits p = true := by
  induction k with
  | zero => simp [goods]
  | succ k ih =>
    rw [goods]
    split
    · intro p hp
      rcases List.mem_append.1 hp with h | h
      · exact ih p h
      · rw [List.mem_singleton] at h; subst h; assumption
    · exact ih
theorem allF_length {ps : List (List UInt8)} (h : ∀ p ∈ ps, fits p = true) : (allF ps).length ≤ 518 * ps.length := by
  induction ps with
  | nil => simp [allF]
  | cons p ps ih =>
    have h1 := ih (fun q hq => h q (List.mem_cons_of_mem _ hq))
    have h2 := h p (List.mem_cons_self ..)
    unfold allF at *
    rw [List.flatMap_cons, List.length_append, frameB_length, List.length_cons]
    simp only [fits, Bool.and_eq_true, decide_eq_true_eq] at h2
    omega
theorem endsF_snoc (ps : List (List UInt8)) (p : List UInt8) : endsF (ps ++ [p]) = endsF ps ++ [(allF (ps ++ [p])).length] := by
  unfold endsF
  rw [List.length_append, List.length_singleton, List.range_succ, List.map_append]
  congr 1
  · refine List.map_congr_left fun i hi => ?_
    rw [List.take_append_of_le_length (by have := List.mem_range.1 hi; omega)]
  · rw [List.map_cons, List.map_nil, List.take_of_length_le (by simp)]
theorem putF_fits {p : List UInt8} : putF p = if fits p then (frameB p, 0) else ([], if p.length = 0 then 1 else 7) := by
  unfold putF fits
  by_cases h0 : p.length = 0
  · simp [h0]
  · by_cases h5 : 512 < p.length
    · simp [h0, h5]
    · simp [h0, h5]

/-- the three rows that are gathered -/
structure Three (w0 w : World) (va vp ve : Value) (all : List UInt8) (xs : List Value) (ps : List (List UInt8)) (es : List Value) : Prop where
  a : OwnB w w0.heap.size va all
  p : OwnV w w0.heap.size 22 vp xs
  s : Slots w (fun k => w0.heap.size ≤ k) xs ps
  e : OwnV w w0.heap.size 3 ve es
  ap : ∀ q, va.ownBlock = some q → vp.ownBlock ≠ some q
  ae : ∀ q, va.ownBlock = some q → ve.ownBlock ≠ some q
  pe : ∀ q, vp.ownBlock = some q → ve.ownBlock ≠ some q
  g : w0.grownBy w none
theorem Three.start (w : World) : Three w w (.slice none 0 0) (.slice none 0 0) (.slice none 0 0) [] [] [] [] :=
  ⟨OwnB.nil _ _, OwnV.nil _ _ _, Slots.nil _ _, OwnV.nil _ _ _, fun q h => (by cases h), fun q h => (by cases h), fun q h => (by cases h), World.grownBy.refl _ _⟩
section
variable {w0 w w' : World} {va va' vp vp' ve ve' : Value} {all fb : List UInt8} {xs : List Value} {ps : List (List UInt8)} {es : List Value}
theorem Three.grown (T : Three w0 w va vp ve all xs ps es) (hg : w.grownBy w' none) : Three w0 w' va vp ve all xs ps es :=
  ⟨T.a.kept hg (Classical.em _), T.p.grown hg, T.s.kept (Kept.of_grown hg), T.e.grown hg, T.ap, T.ae, T.pe, grown_trans T.g hg⟩
theorem own_or {v v' : Value} (h : ∀ q, v.ownBlock = some q → v'.ownBlock ≠ some q) : v'.ownBlock = none ∨ v'.ownBlock ≠ v.ownBlock := by
  cases h1 : v.ownBlock with
  | none => exact Classical.em _
  | some q => exact .inr (h q h1)
theorem own_or' {v v' : Value} (h : ∀ q, v'.ownBlock = some q → v.ownBlock ≠ some q) : v'.ownBlock = none ∨ v'.ownBlock ≠ v.ownBlock := by
  cases h1 : v'.ownBlock with
  | none => exact .inl rfl
  | some q => exact .inr (fun e => h q h1 e.symm)
theorem kept_own {B : Nat} {v : Value} (hg : w.grownBy w' v.ownBlock) (h : ∀ q, v.ownBlock = some q → B ≤ q) : Kept (fun k => B ≤ k) w w' := by
  cases h1 : v.ownBlock with
  | none => rw [h1] at hg; exact Kept.of_grown hg
  | some q => rw [h1] at hg; exact Kept.of_row hg (h q h1)
theorem Three.appA (T : Three w0 w va vp ve all xs ps es) (ho : OwnB w' w0.heap.size va' (all ++ fb)) (hg : w.grownBy w' va.ownBlock) (hl : ∀ k, va'.ownBlock = some k → va.ownBlock = some k ∨ w.heap.size ≤ k) :
    Three w0 w' va' vp ve (all ++ fb) xs ps es :=
  ⟨ho, T.p.kept hg (own_or T.ap), T.s.kept (kept_own hg (fun q h => (T.a.lt q h).1)), T.e.kept hg (own_or T.ae), fun q h => by
    rcases hl q h with h1 | h1
    · exact T.ap q h1
    · intro h2; have := (T.p.lt q h2).2; omega, fun q h => by
    rcases hl q h with h1 | h1
    · exact T.ae q h1
    · intro h2; have := (T.e.lt q h2).2; omega, T.pe, grown_row T.g (fun g h => (T.a.lt g h).1) hg⟩
theorem Three.appP {g n c : Nat} {pa : Option Addr} {pn pc : Nat} {b : List UInt8} (T : Three w0 w va vp ve all xs ps es) (ho : OwnV w' w0.heap.size 22 (.slice (some ⟨g, 0, none⟩) n c) (xs ++ [.slice pa pn pc])) (hg : w.grownBy w' vp.ownBlock) (hl : vp.ownBlock = some g ∨ w.heap.size ≤ g) (hn : b.length = pn) (hr : RB w0 pa b) :
    Three w0 w' va (.slice (some ⟨g, 0, none⟩) n c) ve all (xs ++ [.slice pa pn pc]) (ps ++ [b]) es := by
  have hg' := grown_row T.g (fun g h => (T.p.lt g h).1) hg
  refine ⟨T.a.kept hg (own_or' T.ap), ho, Slots.snoc (T.s.kept (kept_own hg (fun q h => (T.p.lt q h).1))) hn ?_, T.e.kept hg (own_or T.pe), fun q h => ?_, T.ae, fun q h => ?_, hg'⟩
  · intro i hi
    obtain ⟨k, o, e, hc⟩ := hr i hi
    have hlt := World.block_lt_of_cell? w0 _ hc
    simp only at hlt
    exact ⟨k, o, e, fun h => by omega, grown_cell hg' hc⟩
  · intro h2
    have e : g = q := by simpa [Value.ownBlock] using h2
    subst e
    rcases hl with h1 | h1
    · exact T.ap g h h1
    · have := (T.a.lt g h).2; omega
  · have e : g = q := by simpa [Value.ownBlock] using h
    subst e
    rcases hl with h1 | h1
    · exact T.pe g h1
    · intro h2; have := (T.e.lt g h2).2; omega
theorem Three.appE {g n c : Nat} {u : Value} (T : Three w0 w va vp ve all xs ps es) (ho : OwnV w' w0.heap.size 3 (.slice (some ⟨g, 0, none⟩) n c) (es ++ [u])) (hg : w.grownBy w' ve.ownBlock) (hl : ve.ownBlock = some g ∨ w.heap.size ≤ g) :
    Three w0 w' va vp (.slice (some ⟨g, 0, none⟩) n c) all xs ps (es ++ [u]) := by
  have hg' := grown_row T.g (fun g h => (T.e.lt g h).1) hg
  refine ⟨T.a.kept hg (own_or' T.ae), T.p.kept hg (own_or' T.pe), T.s.kept (kept_own hg (fun q h => (T.e.lt q h).1)), ho, T.ap, fun q h => ?_, fun q h => ?_, hg'⟩
  · intro h2
    have e : g = q := by simpa [Value.ownBlock] using h2
    subst e
    rcases hl with h1 | h1
    · exact T.ae g h h1
    · have := (T.a.lt g h).2; omega
  · intro h2
    have e : g = q := by simpa [Value.ownBlock] using h2
    subst e
    rcases hl with h1 | h1
    · exact T.pe g h h1
    · have := (T.p.lt g h).2; omega
end

def FramedPost (w : World) (ps : List (List UInt8)) (r : Ending) (w' : World) : Prop :=
  ∃ (va vp ve : Value) (xs : List Value), r = .returned (.tuple #[va, vp, ve]) ∧ Three w w' va vp ve (allF ps) xs ps ((endsF ps).map fun (n : Nat) => Value.int .i64 (n : Int))

def FramedRel (w : World) (A : Nat → SliceV) (len : Nat) (va vp ve i : Value) (wr : World) : Prop :=
  ∃ (k : Nat) (xs : List Value), k ≤ len ∧ k ≤ 12 ∧ i = .int .i64 k ∧ Three w wr va vp ve (allF (goods A k)) xs (goods A k) ((endsF (goods A k)).map fun (n : Nat) => Value.int .i64 (n : Int))

theorem allF_snoc (ps : List (List UInt8)) (p : List UInt8) : allF (ps ++ [p]) = allF ps ++ frameB p := by
  unfold allF
  rw [List.flatMap_append, List.flatMap_cons, List.flatMap_nil, List.append_nil]
theorem framedRel_step {w w' : World} {A : Nat → SliceV} {len k n : Nat} {va vp ve : Value} {xs : List Value} (hk : k < len) (h12 : k < 12) (hf : fits (A k).b = true)
    (T : Three w w' va vp ve (allF (goods A k) ++ frameB (A k).b) xs (goods A k ++ [(A k).b]) (((endsF (goods A k)).map fun (n : Nat) => Value.int .i64 (n : Int)) ++ [.int .i64 (n : Int)]))
    (hn : (allF (goods A k) ++ frameB (A k).b).length = n) : FramedRel w A len va vp ve (.int .i64 ((k : Int) + 1)) w' := by
  have hgo : goods A (k + 1) = goods A k ++ [(A k).b] := by rw [goods, if_pos hf]
  refine ⟨k + 1, xs, hk, h12, by simp, ?_⟩
  rw [hgo, endsF_snoc, allF_snoc, List.map_append, hn]
  exact T

set_option maxRecDepth 100000 in
set_option maxHeartbeats 3200000 in
theorem frame_framed (a : Option Addr) (len cap : Nat) (A : Nat → SliceV) (w : World) (hl : len ≤ maxLen) (hA : ∀ i, i < len → SliceAt w a i (A i)) (hT : Tab w) :
    Calls Tryd.prog 16 #[.slice a len cap] w (FramedPost w (goods A (min len 12))) := by
  have HA := Lib.hid hA; have HT := Lib.hid hT
  have hmax : maxLen = 9223372036854775807 := rfl
  rw [hmax] at hl
  clear hA hT hmax
  go_enter Tryd.func16, Tryd.ntmps16
  go_wp2_with fail
  go_loopw [5, 6, 7, 8] (fun va vp ve i wr => FramedRel w A len va vp ve i wr) (fun _ _ _ i _ => len - (intOf i).toNat)
  case atStart => exact ⟨0, [], Nat.zero_le _, Nat.zero_le _, rfl, Three.start w⟩
  case round =>
    obtain ⟨k, xs, hk, hk12, rfl, T⟩ := hrel
    have HT3 := Lib.hid T
    clear T
    by_cases hlt : k < len
    · by_cases h12 : k < 12
      · obtain ⟨bb, o, rfl, hc, hin⟩ := HA.out k hlt
        have d0 := grown_cell HT3.out.g hc
        have HC := Lib.hid hc; have HIN := Lib.hid hin
        clear hc hin
        have i0 : (0 : Int) ≤ (k : Int) := by omega
        have i1 : (k : Int) < (len : Int) := by omega
        have i2 : (k : Int) < 12 := by omega
        go_wp2_with fail
        have HP := Lib.hid (frame_put (A k).a (A k).len (A k).cap (A k).b wr HIN.out.len_eq (HIN.out.reads.old (grown_below HT3.out.g)) (HT.out.grown HT3.out.g))
        rw [putF_fits] at HP
        cases hf : fits (A k).b
        · rw [hf] at HP
          simp only [Bool.false_eq_true, if_false] at HP
          obtain ⟨e, he⟩ : ∃ e, (if (A k).b.length = 0 then (1 : Int) else 7) = e := ⟨_, rfl⟩
          rw [he] at HP
          have he0 : (e != 0) = true := by rw [← he]; split <;> rfl
          clear he
          refine HP.out.mono ?_
          rintro r w1 ⟨a1, n1, c1, rfl, _, _, _, hg⟩
          have HT1 := Lib.hid (HT3.out.grown hg)
          clear hg d0
          have hgo : goods A (k + 1) = goods A k := by rw [goods, hf]; rfl
          have HGO := Lib.hid hgo
          clear hgo
          go_wp2_with fail
          exact ⟨⟨k + 1, xs, by omega, by omega, by go_num, by rw [HGO.out]; exact HT1.out⟩, by simp only [intOf]; omega⟩
        · rw [hf] at HP
          simp only [if_true] at HP
          refine HP.out.mono ?_
          rintro r w1 ⟨a1, n1, c1, rfl, hn1, hr1, hnew, hg⟩
          have hT1 := HT3.out.grown hg
          have HRX := Lib.hid (show RX w1.drew (fun q => u6.ownBlock = some q) a1 (frameB (A k).b) from RX.of_rb hr1 (fun ad h _ hx => by
            have h1 := (HT3.out.p.lt ad.block hx).2
            have h2 : wr.heap.size ≤ ad.block := hnew ad h
            omega))
          clear hnew
          have HT1 := Lib.hid hT1
          have HN1 := Lib.hid hn1; have HR1 := Lib.hid hr1
          have d1 := grown_cell hg d0
          clear hn1 hr1 hg hT1 d0
          go_wp2_with fail
          have TD := Lib.hid (HT1.out.grown (grown_drew1 w1))
          have hd1 : w1.drew.cell? ⟨bb, o + k, none⟩ = some (.slice (A k).a (A k).len (A k).cap) := d1
          clear d1
          have LA := Lib.hid (show (allF (goods A k)).length ≤ 518 * 12 from Nat.le_trans (allF_length (goods_fits A k)) (by have := goods_length A k; omega))
          have LF := Lib.hid (show (frameB (A k).b).length ≤ 518 by rw [frameB_length]; simp only [fits, Bool.and_eq_true, decide_eq_true_eq] at hf; omega)
          have LX := Lib.hid (show xs.length ≤ 12 by rw [HT3.out.s.1]; have := goods_length A k; omega)
          go_region_law (first
            | (refine step_append_bytes2 (by rfl) _ _ (by rfl) w.heap.size u5 (allF (goods A k)) (by rfl) (by first | exact hTP.a | exact TD.out.a | exact (TD.out.grown (World.grownBy_alloc _ _ none)).a) a1 n1 c1 (frameB (A k).b) (by rfl) (by first | exact hRP.rb | exact HRX.out.rb | exact HRX.out.rb.alloc _) HN1.out (by have := LA.out; have := LF.out; have := HN1.out; omega) (by first | exact hTP.g.size | exact TD.out.g.size | exact (TD.out.grown (World.grownBy_alloc _ _ none)).g.size) ?_
               intro vA wA hoA hgA hlA
               obtain ⟨aA, nA, cA, rfl, hnA⟩ := hoA.len
               first
                 | have hTA := hTP.appA hoA hgA hlA
                 | have hTA := TD.out.appA hoA hgA hlA
                 | (have hTA := (TD.out.grown (World.grownBy_alloc _ _ none)).appA hoA hgA hlA
                    have hcA := (hgA.block _ (by simp) (fun e => by have := (TD.out.a.lt _ e.symm).2; omega)).trans (heap_new_at w1.drew (.cells #[.slice (A k).a (A k).len (A k).cap] 22) _ rfl))
               have dA := grown_cell hTA.g HC.out)
            | (refine step_append_val (by rfl) _ _ 35 22 (by rfl) Tryd.underlying35 (.slice none 0 0) 24 info_bytes rfl w.heap.size u6 xs (by rfl) (by first | exact hTA.p | exact (hTA.grown (World.grownBy_alloc _ _ none)).p | exact (TD.out.grown (World.grownBy_alloc _ _ none)).p) _ 1 (.slice (A k).a (A k).len (A k).cap) (0, 0) (by rfl) (by first | exact hcA | exact heap_new_at _ _ _ rfl) rfl (by have := LX.out; omega) (by have := LX.out; omega) (by first | exact hTA.g.size | exact (hTA.grown (World.grownBy_alloc _ _ none)).g.size | exact (TD.out.grown (World.grownBy_alloc _ _ none)).g.size) ?_
               intro gP nP cP wP hnP hoP hgP hlP
               first
                 | have hTP := hTA.appP hoP hgP hlP HIN.out.len_eq HIN.out.reads
                 | have hTP := (hTA.grown (World.grownBy_alloc _ _ none)).appP hoP hgP hlP HIN.out.len_eq HIN.out.reads
                 | (have hTP := (TD.out.grown (World.grownBy_alloc _ _ none)).appP hoP hgP hlP HIN.out.len_eq HIN.out.reads
                    have hRP := (HRX.out.kept (Kept.of_grown (World.grownBy_alloc w1.drew (.cells #[.slice (A k).a (A k).len (A k).cap] 22) none))).kept ⟨hgP.os, hgP.tape, hgP.output, hgP.size, fun k hk hx => hgP.block k hk (fun e => hx e.symm)⟩)))
          all_goals (
            have HNO := Lib.hid (show (allF (goods A k) ++ frameB (A k).b).length = nA from hnA)
            have HTP := Lib.hid hTP; have HTA := Lib.hid hTA
            have LE := Lib.hid (show ((endsF (goods A k)).map fun (n : Nat) => Value.int .i64 (n : Int)).length ≤ 12 by simp only [List.length_map, endsF, List.length_range]; have := goods_length A k; omega)
            clear hTP hTA hoA hgA hlA hnA hoP hgP hlP hnP dA
            go_wp2_with (at_builtin; refine wpList_append_val rfl _ _ 43 3 rfl Tryd.underlying43 (.int .i64 0) 8 info_int rfl w.heap.size u7 _ rfl (by first | exact HTP.out.e.alloc _ | exact HTA.out.e.alloc _) _ 1 (.int .i64 (nA : Int)) (0, 0) rfl (heap_new_at _ _ _ rfl) rfl (by have := LE.out; omega) (by have := LE.out; omega) (by first | exact (HTP.out.grown (World.grownBy_alloc _ _ none)).g.size | exact (HTA.out.grown (World.grownBy_alloc _ _ none)).g.size) ?_)
            intro gE nE cE wE hnE hoE hgE hlE
            have HFE := Lib.hid (show FramedRel w A len _ _ (.slice (some ⟨gE, 0, none⟩) nE cE) (.int .i64 ((k : Int) + 1)) wE from framedRel_step hlt h12 hf (by first | exact (HTP.out.grown (World.grownBy_alloc _ _ none)).appE hoE hgE (hlE.imp id (fun h => by simpa using h)) | exact (HTA.out.grown (World.grownBy_alloc _ _ none)).appE hoE hgE (hlE.imp id (fun h => by simpa using h))) HNO.out)
            clear hoE hgE hlE hnE
            go_wp2_with fail
            exact ⟨HFE.out, by simp only [intOf]; omega⟩)
      · obtain rfl : k = 12 := by omega
        have hmin : min len 12 = 12 := by omega
        have HMIN := Lib.hid hmin
        clear hmin
        go_wp2_with fail
        go_ret3
        exact ⟨u5, u6, u7, xs, rfl, by rw [HMIN.out]; exact HT3.out⟩
    · obtain rfl : k = len := by omega
      have hmin : min k 12 = k := by omega
      have HMIN := Lib.hid hmin
      clear hmin
      go_wp2_with fail
      go_ret3
      exact ⟨u5, u6, u7, xs, rfl, by rw [HMIN.out]; exact HT3.out⟩

end Go.Proofs.YthpoccjlhcpoiaaDoor
