/-
  Several disks at once; whether two disks show the same.
-/
import Derived.Test.YtkemocbifancfaaDCopyD
import Derived.Deep.DeepCutAuto
namespace Go.Proofs.Ytkemocbifancfaa
open Go.RowKit
set_option maxRecDepth 100000

/-- a disk and what is in it -/
structure Ship where
  D : DId
  S : FaceV
  T : List WriteV
/-- the blocks of one disk are none of the other's -/
def Far (A B : DId) : Prop := ∀ k, DY A k → ¬ DY B k ∧ ¬ LX B k
structure Fleet (w0 w : World) (nb sz N s most : Nat) (Q : List Ship) : Prop where
  live : ∀ i (h : i < Q.length), Live w0 w (Q[i]).D nb sz N s most (Q[i]).S (Q[i]).T
  far : ∀ i j (hi : i < Q.length) (hj : j < Q.length), i ≠ j → Far (Q[i]).D (Q[j]).D
theorem Fleet.later {w0 w w' : World} {nb sz N s most : Nat} {Q : List Ship} (h : Fleet w0 w nb sz N s most Q) (hg : w.grownBy w' none) : Fleet w0 w' nb sz N s most Q := ⟨fun i hi => (h.live i hi).later hg, h.far⟩
theorem Fleet.one {w0 w : World} {nb sz N s most : Nat} {D : DId} {S : FaceV} {T : List WriteV} (h : Live w0 w D nb sz N s most S T) : Fleet w0 w nb sz N s most [⟨D, S, T⟩] := by
  refine ⟨fun i hi => ?_, fun i j hi hj hne => ?_⟩
  · match i, hi with
    | 0, _ => exact h
  · simp only [List.length_singleton] at hi hj
    omega
/-- an act on one disk leaves the others -/
theorem Fleet.op {w0 w w' : World} {nb sz N s most : Nat} {Q : List Ship} (h : Fleet w0 w nb sz N s most Q) (i : Nat) (hi : i < Q.length) {S' : FaceV} {T' : List WriteV} {v : Value} {r : Ending} (hp : OpPost w (Q[i]).D nb sz N s most S' T' v r w') :
    r = .returned v ∧ ∃ D', D'.d = (Q[i]).D.d ∧ Fleet w0 w' nb sz N s most (Q.set i ⟨D', S', T'⟩) := by
  have hlv := (h.live i hi).op hp
  obtain ⟨e, D1, h1, h2, h3, h4, h5⟩ := hp
  have hdl : ∀ j (hj : j < Q.length), ∀ k, DY (Q[j]).D k → k < w.heap.size := fun j hj => (h.live j hj).disk.low
  have hll : ∀ j (hj : j < Q.length), ∀ k, LX (Q[j]).D k → k < w.heap.size := fun j hj => (h.live j hj).disk.lows
  have hz := (h.live i hi).grown.size
  refine ⟨e, D1, h2, ⟨fun j hj => ?_, fun j q hj hq hne => ?_⟩⟩
  · rw [List.length_set] at hj
    by_cases hij : i = j
    · subst hij
      rw [List.getElem_set_self]
      refine ⟨h1, fun k hk => ?_, hlv.2.choose_spec.1.grown⟩
      rcases h4 k hk with e | e
      · exact (h.live i hi).lo k e
      · omega
    · rw [List.getElem_set_ne hij]
      have hl := h.live j hj
      refine ⟨hl.disk.keptX h5 (fun k hk he => ((h.far i j hi hj hij) k he).1 hk) (fun k hk he => ((h.far i j hi hj hij) k he).2 hk), hl.lo, hlv.2.choose_spec.1.grown⟩
  · rw [List.length_set] at hj hq
    by_cases hij : i = j
    · subst hij
      rw [List.getElem_set_self, List.getElem_set_ne hne]
      intro k hk
      rcases h4 k hk with e | e
      · exact h.far i q hi hq hne k e
      · exact ⟨fun hx => by have := hdl q hq k hx; omega, fun hx => by have := hll q hq k hx; omega⟩
    · rw [List.getElem_set_ne hij]
      by_cases hiq : i = q
      · subst hiq
        rw [List.getElem_set_self]
        intro k hk
        have hf := h.far j i hj hi hne k hk
        refine ⟨fun hx => ?_, fun hx => ?_⟩
        · rcases h4 k hx with e | e
          · exact hf.1 e
          · have := hdl j hj k hk; omega
        · rcases h3 k hx with e | e
          · exact hf.2 e
          · have := hdl j hj k hk; omega
      · rw [List.getElem_set_ne hiq]
        exact h.far j q hj hq hne
/-- a copy comes to the fleet -/
theorem Fleet.copy {w0 w w' : World} {nb sz N s most : Nat} {Q : List Ship} (h : Fleet w0 w nb sz N s most Q) (i : Nat) (hi : i < Q.length) {r : Ending} (hp : CopyDPost w (Q[i]).D nb sz N s most (Q[i]).S (Q[i]).T r w') :
    ∃ D', r = .returned (.pointer (some ⟨D'.d, 0, none⟩)) ∧ Fleet w0 w' nb sz N s most (Q ++ [⟨D', (Q[i]).S, (Q[i]).T⟩]) ∧ w.grownBy w' none := by
  obtain ⟨D', e, h1, h2, h3, hg⟩ := hp
  have hdl : ∀ j (hj : j < Q.length), ∀ k, DY (Q[j]).D k → k < w.heap.size := fun j hj => (h.live j hj).disk.low
  have hll : ∀ j (hj : j < Q.length), ∀ k, LX (Q[j]).D k → k < w.heap.size := fun j hj => (h.live j hj).disk.lows
  have hz := (h.live i hi).grown.size
  have hlx : ∀ k, LX D' k → LX (Q[i]).D k := fun k hk => by
    unfold LX at *
    rw [h3] at hk
    exact hk
  refine ⟨D', e, ⟨fun j hj => ?_, fun j q hj hq hne => ?_⟩, hg⟩
  · rw [List.length_append, List.length_singleton] at hj
    by_cases hjl : j < Q.length
    · rw [List.getElem_append_left hjl]
      exact (h.live j hjl).later hg
    · rw [List.getElem_append_right (by omega)]
      simp only [List.getElem_singleton]
      exact ⟨h1, fun k hk => Nat.le_trans hz (h2 k hk), grown_trans (h.live i hi).grown hg⟩
  · rw [List.length_append, List.length_singleton] at hj hq
    by_cases hjl : j < Q.length
    · rw [List.getElem_append_left hjl]
      by_cases hql : q < Q.length
      · rw [List.getElem_append_left hql]
        exact h.far j q hjl hql hne
      · rw [List.getElem_append_right (by omega)]
        simp only [List.getElem_singleton]
        intro k hk
        refine ⟨fun hx => by have := h2 k hx; have := hdl j hjl k hk; omega, fun hx => ?_⟩
        have h5 := hlx k hx
        by_cases hji : j = i
        · subst hji
          exact (h.live j hi).disk.own k h5 hk
        · exact (h.far j i hjl hi hji k hk).2 h5
    · rw [List.getElem_append_right (by omega)]
      by_cases hql : q < Q.length
      · rw [List.getElem_append_left hql]
        simp only [List.getElem_singleton]
        intro k hk
        exact ⟨fun hx => by have := h2 k hk; have := hdl q hql k hx; omega, fun hx => by have := h2 k hk; have := hll q hql k hx; omega⟩
      · omega

def TwinCut (w : World) (s : Value) (wx : World) : Prop := s = .bool false ∧ w.grownBy wx none
def TwinRel (w : World) (nb : Nat) (i : Value) (wr : World) : Prop := ∃ k : Nat, k ≤ nb ∧ i = .int .i64 (k : Int) ∧ w.grownBy wr none
theorem twin_le {k nb : Nat} (h : (k : Int) < (nb : Int)) : k + 1 ≤ nb := by omega
theorem twin_lt {k nb : Nat} (h : (k : Int) < (nb : Int)) : nb - (intOf (.int .i64 ((k + 1 : Nat) : Int))).toNat < nb - (intOf (.int .i64 (k : Int))).toNat := by simp only [intOf]; omega
theorem twin_w {k nb : Nat} (h : (k : Int) < (nb : Int)) (hn : nb ≤ 1024) : wrap64 ((k : Int) + 1) = ((k + 1 : Nat) : Int) := by unfold wrap64; omega
theorem twin_w2 {k nb : Nat} (h : (k : Int) < (nb : Int)) (hn : nb ≤ 1024) : wrap64 ((k + 1 : Nat) : Int) = ((k + 1 : Nat) : Int) := by unfold wrap64; omega
set_option maxHeartbeats 3200000 in
theorem disk_twins {w : World} {A B : DId} {nb sz N s most : Nat} {S S' : FaceV} {T T' : List WriteV} (hA : DiskAt w A nb sz N s most S T) (hB : DiskAt w B nb sz N s most S' T') (e : seenV nb sz s S' T' = seenV nb sz s S T) (hb : endV s (seenV nb sz s S T) ≤ 1000000) :
    Calls Try.prog 17 #[.pointer (some ⟨A.d, 0, none⟩), .pointer (some ⟨B.d, 0, none⟩)] w fun r w' => r = .returned (.bool true) ∧ w.grownBy w' none := by
  unfold endV at hb
  have HNB := Lib.hid hA.fi.vol.nb_le
  have A1 := Lib.hid (fun u (hu : w.grownBy u none) => disk_blocks (hA.grown hu))
  have B1 := Lib.hid (fun u (hu : w.grownBy u none) => disk_blocks (hB.grown hu))
  have A2 := Lib.hid (fun u (hu : w.grownBy u none) => disk_first (hA.grown hu) (by omega))
  have B2 := Lib.hid (fun u (hu : w.grownBy u none) => disk_first (hB.grown hu) (by rw [e]; omega))
  have A3 := Lib.hid (fun u (hu : w.grownBy u none) => disk_bytes (hA.grown hu) 0 (by omega) (by omega))
  have B3 := Lib.hid (fun u (hu : w.grownBy u none) => disk_bytes (hB.grown hu) 0 (by rw [e]; omega) (by omega))
  have A4 := Lib.hid (fun u (hu : w.grownBy u none) q => disk_block (hA.grown hu) q)
  have B4 := Lib.hid (fun u (hu : w.grownBy u none) q => disk_block (hB.grown hu) q)
  rw [e] at B2 B3 B4
  obtain ⟨ff, hff⟩ : ∃ ff, (seenV nb sz s S T).f * s = ff := ⟨_, rfl⟩
  obtain ⟨l, hl⟩ : ∃ l, bytesF s (seenV nb sz s S T).f (seenV nb sz s S T).l 0 = l := ⟨_, rfl⟩
  obtain ⟨bk, hbk⟩ : ∃ bk : Int → List UInt8, (fun q => blockOf nb sz q (seenV nb sz s S T).L) = bk := ⟨_, rfl⟩
  have A4 := Lib.hid (show ∀ u, w.grownBy u none → ∀ q, Calls _ _ _ u (BytesPost u (bk q)) from fun u hu q => by rw [← hbk]; exact A4.out u hu q)
  have B4 := Lib.hid (show ∀ u, w.grownBy u none → ∀ q, Calls _ _ _ u (BytesPost u (bk q)) from fun u hu q => by rw [← hbk]; exact B4.out u hu q)
  rw [hff] at A2 B2
  rw [hl] at A3 B3
  obtain ⟨a, ha⟩ : ∃ a, A.d = a := ⟨_, rfl⟩
  obtain ⟨b, hb'⟩ : ∃ b, B.d = b := ⟨_, rfl⟩
  rw [ha] at A1 A2 A3 A4 ⊢
  rw [hb'] at B1 B2 B3 B4 ⊢
  have hS0 : w.grownBy w.drew none := grown_drew1 _
  have hS1 : w.grownBy w none := World.grownBy.refl _ _
  clear hA hB e hb hff hl hbk ha hb'
  go_enter Try.func17, Try.ntmps17
  go_wp2_with fail
  go_cut [26] (fun s26 wx => TwinCut w s26 wx)
  case first =>
    go_region_held_law (fun w' => w.grownBy w' none)
      (with_reducible (first | assumption | exact grown_drew (by assumption)))
      (first
        | (go_at_call_of 27 (Value.pointer (some ⟨a, 0, none⟩)); refine (A1.out _ (by with_reducible assumption)).mono ?_; rintro e w1 ⟨rfl, rfl⟩)
        | (go_at_call_of 27 (Value.pointer (some ⟨b, 0, none⟩)); refine (B1.out _ (by with_reducible assumption)).mono ?_; rintro e w2 ⟨rfl, rfl⟩)
        | (go_at_call_of 29 (Value.pointer (some ⟨a, 0, none⟩)); refine (A2.out _ (by with_reducible assumption)).mono ?_; rintro e w3 ⟨rfl, hg3⟩; have hS3 := keepT hg3 (by with_reducible assumption))
        | (go_at_call_of 29 (Value.pointer (some ⟨b, 0, none⟩)); refine (B2.out _ (by with_reducible assumption)).mono ?_; rintro e w4 ⟨rfl, hg4⟩; have hS4 := keepT hg4 (by with_reducible assumption))
        | (go_at_call_of 12 (Value.pointer (some ⟨a, 0, none⟩)); refine (A3.out _ (by with_reducible assumption)).mono ?_; rintro e w5 ⟨v, rfl, ho, hg5⟩; have hS5 := keepT hg5 (by with_reducible assumption); obtain ⟨va, vn, vc, rfl, hvn⟩ := ho.len; have kR := str_ofB (c := vc) (RB.of_own ho) hvn; have hR := World.grownBy.refl w5 none)
        | (go_at_call_of 12 (Value.pointer (some ⟨b, 0, none⟩)); refine (B3.out _ (by with_reducible assumption)).mono ?_; rintro e w6 ⟨v, rfl, ho, hg6⟩; have hS6 := keepT hg6 (by with_reducible assumption); obtain ⟨vb, vm, vd, rfl, hvm⟩ := ho.len; have kT := str_ofB (c := vd) (RB.of_own ho) hvm; have hT := World.grownBy.refl w6 none))
    all_goals (
      go_wp2_with fail
      go_meet
      exact ⟨rfl, hS6⟩)
  case rest =>
  obtain ⟨rfl, hg⟩ := hcut
  have HG := Lib.hid hg
  clear hg hS0 hS1 A2 B2 A3 B3
  go_wp2_with fail
  go_loopw [5] (fun i wr => TwinRel w nb i wr) (fun i _ => nb - (intOf i).toNat)
  case atStart => exact ⟨0, Nat.zero_le _, rfl, HG.out⟩
  case round =>
    obtain ⟨k, hk, rfl, hg⟩ := hrel
    have HGR := Lib.hid hg
    clear hg HG
    go_wp2_with fail
    refine (A1.out _ HGR.out).mono ?_
    rintro r w9 ⟨rfl, rfl⟩
    by_cases hlt : (k : Int) < (nb : Int)
    · have HLT := Lib.hid (fun _ : True => And.intro (twin_le hlt) (twin_lt hlt))
      have HLW := Lib.hid (fun _ : True => And.intro (twin_w hlt HNB.out) (twin_w2 hlt HNB.out))
      go_wp2_with fail
      have hS1 := HGR.out
      have hS0 := grown_drew hS1
      go_cut [41] (fun s41 wx => TwinCut w s41 wx)
      case first =>
        go_region_held_law (fun w' => w.grownBy w' none)
          (with_reducible (first | assumption | exact grown_drew (by assumption)))
          (first
            | (go_at_call_of 19 (Value.pointer (some ⟨a, 0, none⟩)); refine (A4.out _ (by with_reducible assumption) k).mono ?_; rintro e w10 ⟨a5, n5, c5, rfl, hn5, hr5, _, hg5⟩; have hS5 := keepT hg5 (by with_reducible assumption); have kR := str_ofB (c := c5) hr5 hn5; have hR := World.grownBy.refl w10 none)
            | (go_at_call_of 19 (Value.pointer (some ⟨b, 0, none⟩)); refine (B4.out _ (by with_reducible assumption) k).mono ?_; rintro e w11 ⟨a6, n6, c6, rfl, hn6, hr6, _, hg6⟩; have hS6 := keepT hg6 (by with_reducible assumption); have kT := str_ofB (c := c6) hr6 hn6; have hT := World.grownBy.refl w11 none))
        all_goals (
          go_wp2_with fail
          go_meet
          exact ⟨rfl, hS6⟩)
      case rest =>
        obtain ⟨rfl, hg⟩ := hcut
        have HG9 := Lib.hid hg
        clear hg hS0 hS1
        go_wp2_with fail
        have hw := HLW.out trivial
        first
          | (rw [hw.1]; exact ⟨⟨k + 1, (HLT.out trivial).1, rfl, HG9.out⟩, (HLT.out trivial).2⟩)
          | (rw [hw.2]; exact ⟨⟨k + 1, (HLT.out trivial).1, rfl, HG9.out⟩, (HLT.out trivial).2⟩)
    · go_wp2_with fail
      go_ret
      exact ⟨rfl, HGR.out⟩

/-- disks by their pointers, what is sure, what is pending -/
def Ships (w0 w : World) (nb sz N s most : Nat) (P : List (Nat × FaceV × List WriteV)) : Prop := ∃ Q : List Ship, Fleet w0 w nb sz N s most Q ∧ Q.map (fun q => (q.D.d, q.S, q.T)) = P
theorem Ships.later {w0 w w' : World} {nb sz N s most : Nat} {P : List (Nat × FaceV × List WriteV)} (h : Ships w0 w nb sz N s most P) (hg : w.grownBy w' none) : Ships w0 w' nb sz N s most P := by
  obtain ⟨Q, h1, h2⟩ := h
  exact ⟨Q, h1.later hg, h2⟩
theorem Ships.one {w0 w : World} {nb sz N s most : Nat} {D : DId} {S : FaceV} {T : List WriteV} (h : Live w0 w D nb sz N s most S T) : Ships w0 w nb sz N s most [(D.d, S, T)] := ⟨_, Fleet.one h, rfl⟩
theorem ships_at {Q : List Ship} {P : List (Nat × FaceV × List WriteV)} (h : Q.map (fun q => (q.D.d, q.S, q.T)) = P) {i p : Nat} {S : FaceV} {T : List WriteV} (e : P[i]? = some (p, S, T)) : ∃ hi : i < Q.length, (Q[i]).D.d = p ∧ (Q[i]).S = S ∧ (Q[i]).T = T := by
  subst h
  rw [List.getElem?_map] at e
  cases hq : Q[i]? with
  | none => rw [hq] at e; cases e
  | some q =>
    obtain ⟨hi, hq2⟩ := List.getElem?_eq_some_iff.1 hq
    rw [hq] at e
    have e2 : (q.D.d, q.S, q.T) = (p, S, T) := Option.some.inj e
    simp only [Prod.mk.injEq] at e2
    refine ⟨hi, ?_⟩
    rw [hq2]
    exact e2
/-- one of the disks -/
theorem Ships.get {w0 w : World} {nb sz N s most : Nat} {P : List (Nat × FaceV × List WriteV)} (h : Ships w0 w nb sz N s most P) {i p : Nat} {S : FaceV} {T : List WriteV} (e : P[i]? = some (p, S, T)) :
    ∃ D, D.d = p ∧ Live w0 w D nb sz N s most S T ∧ (∀ {w' : World} {S' : FaceV} {T' : List WriteV} {v : Value} {r : Ending}, OpPost w D nb sz N s most S' T' v r w' → r = .returned v ∧ Ships w0 w' nb sz N s most (P.set i (p, S', T'))) ∧
      (∀ {w' : World} {r : Ending}, CopyDPost w D nb sz N s most S T r w' → ∃ d, r = .returned (.pointer (some ⟨d, 0, none⟩)) ∧ Ships w0 w' nb sz N s most (P ++ [(d, S, T)]) ∧ w.grownBy w' none) := by
  obtain ⟨Q, h1, h2⟩ := h
  obtain ⟨hi, e1, e2, e3⟩ := ships_at h2 e
  subst e1 e2 e3
  refine ⟨_, rfl, h1.live i hi, fun hp => ?_, fun hp => ?_⟩
  · obtain ⟨er, D', e4, h3⟩ := h1.op i hi hp
    refine ⟨er, _, h3, ?_⟩
    rw [List.map_set, h2]
    simp only [e4]
  · obtain ⟨D', er, h3, hg⟩ := h1.copy i hi hp
    refine ⟨_, er, ⟨_, h3, ?_⟩, hg⟩
    rw [List.map_append, h2]
    rfl
theorem Ships.grown {w0 w : World} {nb sz N s most : Nat} {P : List (Nat × FaceV × List WriteV)} (h : Ships w0 w nb sz N s most P) {i p : Nat} {S : FaceV} {T : List WriteV} (e : P[i]? = some (p, S, T)) : w0.grownBy w none := by
  obtain ⟨D, _, hl, _⟩ := h.get e
  exact hl.grown
section
variable {w0 w : World} {nb sz N s most : Nat} {P : List (Nat × FaceV × List WriteV)} (h : Ships w0 w nb sz N s most P) {i p : Nat} {S : FaceV} {T : List WriteV} (e : P[i]? = some (p, S, T))
include h e
theorem ships_copy (hT : T.length ≤ 1000) : Calls Try.prog 15 #[.pointer (some ⟨p, 0, none⟩)] w fun r w' => ∃ d, r = .returned (.pointer (some ⟨d, 0, none⟩)) ∧ Ships w0 w' nb sz N s most (P ++ [(d, S, T)]) ∧ w.grownBy w' none := by
  obtain ⟨D, rfl, hl, _, hc⟩ := h.get e
  exact (disk_copy hl.disk hT).mono fun r w' hp => hc hp
theorem ships_sync (hT : T.length ≤ 1000) (hb : endV s S + totB T ≤ 549755813888) : Calls Try.prog 11 #[.pointer (some ⟨p, 0, none⟩)] w fun r w' => r = .returned (.tuple #[]) ∧ Ships w0 w' nb sz N s most (P.set i (p, seenV nb sz s S T, [])) := by
  obtain ⟨D, rfl, hl, ho, _⟩ := h.get e
  exact (disk_sync hl.disk hT hb).mono fun r w' hp => ho hp
theorem ships_crash (keep tear : Int) (hT : T.length ≤ 1000) (hb : endV s S + totB T ≤ 549755813888) : Calls Try.prog 14 #[.pointer (some ⟨p, 0, none⟩), .int .i64 keep, .int .i64 tear] w fun r w' => r = .returned (.tuple #[]) ∧ Ships w0 w' nb sz N s most (P.set i (p, crashV nb sz s S T keep tear, [])) := by
  obtain ⟨D, rfl, hl, ho, _⟩ := h.get e
  exact (disk_crash D nb sz N s most S T keep tear w hl.disk hT hb).mono fun r w' hp => ho hp
theorem ships_put (q : Int) (xa : Option Addr) (xn xc : Nat) (b : List UInt8) (hx : InB w xa xn xc b) (hxn : xn ≤ 1000000) (hT : T.length ≤ 1000) (hb : endV s S + totB T + xn ≤ 1099511627776) : Calls Try.prog 18 #[.pointer (some ⟨p, 0, none⟩), .int .i64 q, .slice xa xn xc] w fun r w' => r = .returned (.int .i64 (putE nb sz q b.length)) ∧ Ships w0 w' nb sz N s most (P.set i (p, S, putT nb sz q b T)) := by
  obtain ⟨D, rfl, hl, ho, _⟩ := h.get e
  have hse := seenV_end nb sz s hl.disk.fj.hs T S
  unfold endV at hse hb
  exact (disk_put hl.disk q xa xn xc b hx hxn hT (by omega)).mono fun r w' hp => ho hp
theorem ships_pending : Calls Try.prog 16 #[.pointer (some ⟨p, 0, none⟩)] w fun r w' => r = .returned (.int .i64 ((T.length : Nat) : Int)) ∧ w' = w := by
  obtain ⟨D, rfl, hl, _, _⟩ := h.get e
  exact disk_pending hl.disk
theorem ships_twins {j q : Nat} {S' : FaceV} {T' : List WriteV} (e2 : P[j]? = some (q, S', T')) (he : seenV nb sz s S' T' = seenV nb sz s S T) (hb : endV s (seenV nb sz s S T) ≤ 1000000) : Calls Try.prog 17 #[.pointer (some ⟨p, 0, none⟩), .pointer (some ⟨q, 0, none⟩)] w fun r w' => r = .returned (.bool true) ∧ Ships w0 w' nb sz N s most P := by
  obtain ⟨D, rfl, hl, _, _⟩ := h.get e
  obtain ⟨D2, rfl, hl2, _, _⟩ := h.get e2
  refine (disk_twins hl.disk hl2.disk he hb).mono ?_
  rintro r w' ⟨er, hg⟩
  exact ⟨er, h.later hg⟩
end

end Go.Proofs.Ytkemocbifancfaa
