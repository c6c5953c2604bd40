/-
  A volume and a tape, as they are seen.
-/
import Derived.Test.YtkemocbifancfaaDPure
namespace Go.Proofs.Ytkemocbifancfaa
open Go.RowKit
set_option maxRecDepth 100000

/-- the blocks of a volume and a tape -/
structure FId where
  gv : Nat
  h : Nat
  gt : Nat
  M : Nat
  B : Nat
  vs : List Value
def FX (i : FId) (k : Nat) : Prop := k = i.gv ∨ k = i.h ∨ TX i.gt i.M i.vs k
structure FaceAt (w : World) (i : FId) (nb sz N s : Nat) (F : FaceV) : Prop where
  vol : VolAt w 0 i.gv i.h nb sz N F.L
  tape : TapeIs w i.gt i.M i.B s F.f F.l i.vs
  size : i.B ≤ w.heap.size
  sep : ¬ TX i.gt i.M i.vs i.gv ∧ ¬ TX i.gt i.M i.vs i.h
theorem VolAt.keptX {X : Nat → Prop} {w w' : World} {B g h nb sz N : Nat} {L : List UInt8} (v : VolAt w B g h nb sz N L) (hk : Kept X w w') (h1 : ¬ X g) (h2 : ¬ X h) : VolAt w' B g h nb sz N L :=
  ⟨v.mul, by rw [hk.block g v.lt.1 h1]; exact v.box, by unfold BlkB; rw [hk.block h v.lt.2 h2]; exact v.row, v.len, v.nb_le, v.sz_le, v.g_ge, v.h_ge, v.ne⟩
theorem FaceAt.keptX {X : Nat → Prop} {w w' : World} {i : FId} {nb sz N s : Nat} {F : FaceV} (h : FaceAt w i nb sz N s F) (hk : Kept X w w') (hX : ∀ k, FX i k → ¬ X k) : FaceAt w' i nb sz N s F :=
  ⟨h.vol.keptX hk (hX _ (.inl rfl)) (hX _ (.inr (.inl rfl))), h.tape.keptX hk (fun k hk => hX k (.inr (.inr hk))), Nat.le_trans h.size hk.size, h.sep⟩
theorem FaceAt.grown {w w' : World} {i : FId} {nb sz N s : Nat} {F : FaceV} (h : FaceAt w i nb sz N s F) (hg : w.grownBy w' none) : FaceAt w' i nb sz N s F :=
  h.keptX (X := fun _ => False) (Kept.of_grown hg) (fun _ _ h => h)
theorem FaceAt.low {w : World} {i : FId} {nb sz N s : Nat} {F : FaceV} (h : FaceAt w i nb sz N s F) : ∀ k, FX i k → k < w.heap.size := by
  intro k hk
  rcases hk with rfl | rfl | hk
  · exact h.vol.lt.1
  · exact h.vol.lt.2
  · exact h.tape.far k hk
def FaceDoPost (w : World) (i : FId) (nb sz N s : Nat) (F : FaceV) (r : Ending) (w' : World) : Prop :=
  r = .returned (.tuple #[]) ∧ ∃ i' : FId, FaceAt w' i' nb sz N s F ∧ i'.gv = i.gv ∧ i'.gt = i.gt ∧ (∀ k, FX i' k → FX i k ∨ w.heap.size ≤ k) ∧ Kept (FX i) w w'
theorem FaceAt.newVol {w w' : World} {i : FId} {nb sz N s : Nat} {F : FaceV} (h : FaceAt w i nb sz N s F) {L : List UInt8} (hv : VolAt w' 0 i.gv i.h nb sz N L) (hg : w.grownBy w' (some i.h)) : FaceDoPost w i nb sz N s ⟨L, F.f, F.l⟩ (.returned (.tuple #[])) w' :=
  ⟨rfl, i, ⟨hv, h.tape.row hg h.sep.2, Nat.le_trans h.size hg.size, h.sep⟩, rfl, rfl, fun _ hk => .inl hk, Kept.of_row hg (.inr (.inl rfl))⟩
theorem FaceAt.newTape {w w' : World} {i : FId} {nb sz N s : Nat} {F : FaceV} (h : FaceAt w i nb sz N s F) {f : Nat} {l : List UInt8} {vs : List Value} (ht : TapeIs w' i.gt i.M i.B s f l vs) (hro : RowsOf w.heap.size i.vs vs) (hk : Kept (TX i.gt i.M i.vs) w w') : FaceDoPost w i nb sz N s ⟨F.L, f, l⟩ (.returned (.tuple #[])) w' := by
  have h1 := h.vol.lt
  refine ⟨rfl, { i with vs := vs }, ⟨h.vol.keptX hk h.sep.1 h.sep.2, ht, Nat.le_trans h.size hk.size, ?_, ?_⟩, rfl, rfl, ?_, hk.more (fun _ hx => .inr (.inr hx))⟩
  · intro e
    rcases TX_rows hro _ e with e | e
    · exact h.sep.1 e
    · have e2 : w.heap.size ≤ i.gv := e
      omega
  · intro e
    rcases TX_rows hro _ e with e | e
    · exact h.sep.2 e
    · have e2 : w.heap.size ≤ i.h := e
      omega
  · intro k hx
    rcases hx with e | e | e
    · exact .inl (.inl e)
    · exact .inl (.inr (.inl e))
    · exact (TX_rows hro _ e).imp (fun e => .inr (.inr e)) id
theorem RX.take {w : World} {X : Nat → Prop} {a : Option Addr} {l : List UInt8} (h : RX w X a l) (n : Nat) : RX w X a (l.take n) := by
  intro i hi
  rw [List.length_take] at hi
  obtain ⟨b, o, e, hx, hc⟩ := h i (by omega)
  exact ⟨b, o, e, hx, by rw [List.getElem_take]; exact hc⟩
theorem FaceDoPost.back {w w1 w' : World} {i : FId} {nb sz N s : Nat} {F : FaceV} {r : Ending} (hg : w.grownBy w1 none) (h : FaceDoPost w1 i nb sz N s F r w') : FaceDoPost w i nb sz N s F r w' := by
  obtain ⟨hr, i', h1, h2, h3, h4, h5⟩ := h
  have hs := hg.size
  exact ⟨hr, i', h1, h2, h3, fun k hk => (h4 k hk).imp id (fun e => by omega), (Kept.of_grown hg).trans h5⟩
section
variable {w : World} {i : FId} {nb sz N s : Nat} {F : FaceV} (a o : Nat) (c0 : w.cell? ⟨a, o, none⟩ = some (.pointer (some ⟨i.gv, 0, none⟩))) (c1 : w.cell? ⟨a, o + 1, none⟩ = some (.pointer (some ⟨i.gt, 0, none⟩))) (h : FaceAt w i nb sz N s F)
include c0 h in
theorem face_blocks : Calls Try.prog 49 #[.pointer (some ⟨a, o, none⟩)] w fun r w' => r = .returned (.int .i64 (nb : Int)) ∧ w' = w := by
  have HH := Lib.hid (vol_blocks h.vol)
  clear h
  go_enter Try.func49, Try.ntmps49
  go_wp2_with fail
  refine HH.out.mono ?_
  rintro r w1 ⟨rfl, rfl⟩
  go_wp2_with fail
  go_ret
  exact ⟨rfl, rfl⟩
include c0 h in
theorem face_size : Calls Try.prog 50 #[.pointer (some ⟨a, o, none⟩)] w fun r w' => r = .returned (.int .i64 (sz : Int)) ∧ w' = w := by
  have HH := Lib.hid (vol_size h.vol)
  clear h
  go_enter Try.func50, Try.ntmps50
  go_wp2_with fail
  refine HH.out.mono ?_
  rintro r w1 ⟨rfl, rfl⟩
  go_wp2_with fail
  go_ret
  exact ⟨rfl, rfl⟩
include c1 h in
theorem face_first (hb : F.f * s ≤ 9223372036854775807) : Calls Try.prog 51 #[.pointer (some ⟨a, o, none⟩)] w fun r w' => r = .returned (.int .i64 ((F.f * s : Nat) : Int)) ∧ w.grownBy w' none := by
  have HH := Lib.hid (tape_first _ _ _ _ _ _ _ w h.tape hb)
  obtain ⟨z, hz⟩ : ∃ z, F.f * s = z := ⟨_, rfl⟩
  rw [hz] at HH ⊢
  clear h hz hb
  go_enter Try.func51, Try.ntmps51
  go_wp2_with fail
  refine HH.out.mono ?_
  rintro r w1 ⟨rfl, hg⟩
  have HG := Lib.hid hg
  clear hg
  go_wp2_with fail
  go_ret
  exact ⟨rfl, HG.out⟩
include c1 h in
theorem face_end : Calls Try.prog 52 #[.pointer (some ⟨a, o, none⟩)] w fun r w' => r = .returned (.int .i64 ((F.f * s + F.l.length : Nat) : Int)) ∧ w' = w := by
  have HH := Lib.hid (tape_end _ _ _ _ _ _ _ w h.tape)
  obtain ⟨z, hz⟩ : ∃ z, F.f * s + F.l.length = z := ⟨_, rfl⟩
  rw [hz] at HH ⊢
  clear h hz
  go_enter Try.func52, Try.ntmps52
  go_wp2_with fail
  refine HH.out.mono ?_
  rintro r w1 ⟨rfl, rfl⟩
  go_wp2_with fail
  go_ret
  exact ⟨rfl, rfl⟩
include c1 h in
theorem face_segs : Calls Try.prog 53 #[.pointer (some ⟨a, o, none⟩)] w fun r w' => r = .returned (.int .i64 ((nSeg s F.l.length : Nat) : Int)) ∧ w' = w := by
  have HH := Lib.hid (tape_segs _ _ _ _ _ _ _ w h.tape)
  obtain ⟨z, hz⟩ : ∃ z, nSeg s F.l.length = z := ⟨_, rfl⟩
  rw [hz] at HH ⊢
  clear h hz
  go_enter Try.func53, Try.ntmps53
  go_wp2_with fail
  refine HH.out.mono ?_
  rintro r w1 ⟨rfl, rfl⟩
  go_wp2_with fail
  go_ret
  exact ⟨rfl, rfl⟩
include c1 h in
theorem face_bytes (x : Int) (hb : F.f * s + F.l.length ≤ 1099511627776) (hx : -9223372036854775808 ≤ x) : Calls Try.prog 33 #[.pointer (some ⟨a, o, none⟩), .int .i64 x] w (TapeBytesPost w (bytesF s F.f F.l x)) := by
  have HH := Lib.hid (tape_bytes _ _ _ _ _ _ _ x w h.tape hb hx)
  clear h hb
  go_enter Try.func33, Try.ntmps33
  go_wp2_with fail
  refine HH.out.mono ?_
  rintro r w1 ⟨v, rfl, ho, hg⟩
  have HO := Lib.hid ho; have HG := Lib.hid hg
  clear ho hg
  go_wp2_with fail
  go_ret
  exact ⟨v, rfl, HO.out, HG.out⟩
set_option maxHeartbeats 3200000 in
include c0 c1 h in
theorem face_do (W : WriteV) (ba : Option Addr) (bn bc : Nat) (torn : Bool) (n : Int) (hb : InB w ba bn bc W.b) (hbx : RX w (TX i.gt i.M i.vs) ba W.b) (hn : -9223372036854775808 ≤ W.n) (hbig : F.f * s + F.l.length + bn ≤ 1099511627776) :
    Calls Try.prog 35 #[.pointer (some ⟨a, o, none⟩), .agg #[.int .i64 W.k, .int .i64 W.i, .slice ba bn bc, .int .i64 W.n], .bool torn, .int .i64 n] w (FaceDoPost w i nb sz N s (doV nb sz s F W torn n)) := by
  have hg1 := World.grownBy_alloc w (.cells #[.int .i64 W.k, .int .i64 W.i, .slice ba bn bc, .int .i64 W.n] 74) none
  have HBD := Lib.hid (fun (F' : FaceV) (r : Ending) (w' : World) (hp : FaceDoPost (w.alloc (.cells #[.int .i64 W.k, .int .i64 W.i, .slice ba bn bc, .int .i64 W.n] 74)).drew i nb sz N s F' r w') => FaceDoPost.back hg1 (FaceDoPost.back (grown_drew1 _) hp))
  have H0 := Lib.hid (fun (F' : FaceV) (r : Ending) (w' : World) (hp : FaceDoPost (w.alloc (.cells #[.int .i64 W.k, .int .i64 W.i, .slice ba bn bc, .int .i64 W.n] 74)) i nb sz N s F' r w') => FaceDoPost.back hg1 hp)
  have c0 := grown_cell hg1 c0
  have c1 := grown_cell hg1 c1
  have H1 := Lib.hid (h.grown hg1)
  have h2 := (h.grown hg1).grown (grown_drew1 _)
  have hb2 := (hb.grown hg1).grown (grown_drew1 _)
  have hbx2 := (hbx.kept (Kept.of_grown hg1)).kept (Kept.of_grown (grown_drew1 _))
  have bx := (Box.new w 74 [.int .i64 W.k, .int .i64 W.i, .slice ba bn bc, .int .i64 W.n] w.heap.size rfl).look
  have hbn := hb.len_eq
  have hbc := hb.cap_le
  have hbm : bc ≤ 9223372036854775807 := hb.max
  have H2 := Lib.hid h2
  clear h hb hbx hg1
  by_cases hk0 : W.k = 0
  · have D0 : (W.k == 0) = true := beq_iff_eq.2 hk0
    cases torn
    · skip
      have hE : doV nb sz s F W false n = ⟨(tearV nb sz F.L W.i W.b sz).1, F.f, F.l⟩ := if_pos hk0
      rw [hE]
      have HC := Lib.hid (vol_put_any h2.vol W.i ba bn bc W.b hb2.len_eq hb2.reads)
      obtain ⟨R, hR⟩ : ∃ R, tearV nb sz F.L W.i W.b sz = R := ⟨_, rfl⟩
      rw [hR] at HC ⊢
      clear h2 hb2 hbx2 hE hR hk0
      go_enter Try.func35, Try.ntmps35
      go_wp2_with fail
      generalize w.alloc (.cells #[.int .i64 W.k, .int .i64 W.i, .slice ba bn bc, .int .i64 W.n] 74) = w1 at *
      go_region_law (first
        | (go_simp
           go_at_call 57
           refine HC.out.mono ?_
           rintro e wa ⟨rfl, hv, hg⟩
           have HP := Lib.hid (HBD.out _ _ _ (H2.out.newVol hv hg))
           clear hv hg))
      all_goals (
        go_wp2_with fail
        go_end0
        exact HP.out)
    · skip
      have hE : doV nb sz s F W true n = ⟨(tearV nb sz F.L W.i W.b n).1, F.f, F.l⟩ := if_pos hk0
      rw [hE]
      have HC := Lib.hid (vol_tear_any h2.vol W.i n ba bn bc W.b hb2.len_eq hb2.reads)
      obtain ⟨R, hR⟩ : ∃ R, tearV nb sz F.L W.i W.b n = R := ⟨_, rfl⟩
      rw [hR] at HC ⊢
      clear h2 hb2 hbx2 hE hR hk0
      go_enter Try.func35, Try.ntmps35
      go_wp2_with fail
      generalize w.alloc (.cells #[.int .i64 W.k, .int .i64 W.i, .slice ba bn bc, .int .i64 W.n] 74) = w1 at *
      go_region_law (first
        | (go_simp
           go_at_call 56
           refine HC.out.mono ?_
           rintro e wa ⟨rfl, hv, hg⟩
           have HP := Lib.hid (HBD.out _ _ _ (H2.out.newVol hv hg))
           clear hv hg))
      all_goals (
        go_wp2_with fail
        go_end0
        exact HP.out)
  · have D0 : (W.k == 0) = false := beq_eq_false_iff_ne.2 hk0
    by_cases hk1 : W.k = 1
    · have D1 : (W.k == 1) = true := beq_iff_eq.2 hk1
      cases torn
      · skip
        have hE : doV nb sz s F W false n = ⟨F.L, F.f, F.l ++ W.b⟩ := (if_neg hk0).trans (if_pos hk1)
        rw [hE]
        have HC := Lib.hid (tape_append i.gt i.M i.B s F.f F.l W.b i.vs ba bn bc _ h2.tape h2.size hbx2 hb2.len_eq hb2.cap_le hb2.max hbig)
        clear h2 hb2 hbx2 hE hk0 hk1
        go_enter Try.func35, Try.ntmps35
        go_wp2_with fail
        generalize w.alloc (.cells #[.int .i64 W.k, .int .i64 W.i, .slice ba bn bc, .int .i64 W.n] 74) = w1 at *
        go_region_law (first
          | (go_simp
             go_at_call 58
             refine HC.out.mono ?_
             rintro e wa ⟨rfl, vs2, ht, hro, hk⟩
             have HP := Lib.hid (HBD.out _ _ _ (H2.out.newTape ht hro hk))
             clear ht hro hk))
        all_goals (
          go_wp2_with fail
          go_end0
          exact HP.out)
      · skip
        have hE : doV nb sz s F W true n = ⟨F.L, F.f, F.l ++ W.b.take n.toNat⟩ := (if_neg hk0).trans (if_pos hk1)
        obtain ⟨m, hm⟩ : ∃ m : Nat, min n.toNat bn = m := ⟨_, rfl⟩
        have htk : W.b.take n.toNat = W.b.take m := by
          rw [← hm]
          by_cases hle : n.toNat ≤ bn
          · rw [Nat.min_eq_left hle]
          · rw [Nat.min_eq_right (by omega), List.take_of_length_le (by omega), List.take_of_length_le (by omega)]
        rw [hE, htk]
        have m1 := max_nat n n.toNat rfl
        have m2 := min_nat n.toNat (bn : Int) m (by rw [← hm]; rfl) (by omega)
        have i0 : (0 : Int) ≤ (m : Int) := by omega
        have i1 : (m : Int) ≤ (bc : Int) := by omega
        obtain ⟨x1, x2, x3⟩ := hb2.cut (n := m) (by omega)
        have HC := Lib.hid (tape_append i.gt i.M i.B s F.f F.l (W.b.take m) i.vs ba m bc _ h2.tape h2.size (hbx2.take m) x1 x3 hb2.max (by omega))
        clear hk0 hk1 h2 hb2 hbx2 hE htk x1 x2 x3
        obtain ⟨nn, hnn⟩ : ∃ nn, n.toNat = nn := ⟨_, rfl⟩
        rw [hnn] at m1 m2 hm
        clear hnn
        go_enter Try.func35, Try.ntmps35
        go_wp2_with fail
        generalize w.alloc (.cells #[.int .i64 W.k, .int .i64 W.i, .slice ba bn bc, .int .i64 W.n] 74) = w1 at *
        go_region_law (first
          | (go_simp
             go_at_call 58
             refine HC.out.mono ?_
             rintro e wa ⟨rfl, vs2, ht, hro, hk⟩
             have HP := Lib.hid (HBD.out _ _ _ (H2.out.newTape ht hro hk))
             clear ht hro hk))
        all_goals (
          go_wp2_with fail
          go_end0
          exact HP.out)
    · have D1 : (W.k == 1) = false := beq_eq_false_iff_ne.2 hk1
      cases torn
      · by_cases hk2 : W.k = 2
        · have D2 : (W.k == 2) = true := beq_iff_eq.2 hk2
          have hE : doV nb sz s F W false n = ⟨F.L, F.f + dropN s F.f F.l.length W.n, F.l.drop (dropN s F.f F.l.length W.n * s)⟩ := (if_neg hk0).trans ((if_neg hk1).trans ((if_neg (by simp)).trans (if_pos hk2)))
          rw [hE]
          have HC := Lib.hid (tape_drop i.gt i.M i.B s F.f F.l i.vs W.n _ h2.tape (by omega) hn)
          clear h2 hb2 hbx2 hE hk0 hk1 hk2
          go_enter Try.func35, Try.ntmps35
          go_wp2_with fail
          generalize w.alloc (.cells #[.int .i64 W.k, .int .i64 W.i, .slice ba bn bc, .int .i64 W.n] 74) = w1 at *
          go_region_law (first
            | (go_simp
               go_at_call 59
               refine HC.out.mono ?_
               rintro e wa ⟨rfl, ht, hk⟩
               have HP := Lib.hid (HBD.out _ _ _ (H2.out.newTape ht (fun v hv k hk => .inl ⟨v, List.mem_of_mem_drop hv, hk⟩) (hk.more (fun k e => e.imp id (fun e => .inl e)))))
               clear ht hk))
          all_goals (
            go_wp2_with fail
            go_end0
            exact HP.out)
        · have D2 : (W.k == 2) = false := beq_eq_false_iff_ne.2 hk2
          have hE : doV nb sz s F W false n = ⟨F.L, F.f, cutT s F.f F.l W.n⟩ := (if_neg hk0).trans ((if_neg hk1).trans ((if_neg (by simp)).trans (if_neg hk2)))
          rw [hE]
          have HC := Lib.hid (tape_cut i.gt i.M i.B s F.f F.l i.vs W.n _ h2.tape h2.size (by omega) hn)
          clear h2 hb2 hbx2 hE hk0 hk1 hk2
          go_enter Try.func35, Try.ntmps35
          go_wp2_with fail
          generalize w.alloc (.cells #[.int .i64 W.k, .int .i64 W.i, .slice ba bn bc, .int .i64 W.n] 74) = w1 at *
          go_region_law (first
            | (go_simp
               go_at_call 60
               refine HC.out.mono ?_
               rintro e wa ⟨rfl, vs2, ht, hro, hk⟩
               have HP := Lib.hid (HBD.out _ _ _ (H2.out.newTape ht hro (hk.more (fun k e => e.imp id (fun e => .inl e)))))
               clear ht hro hk))
          all_goals (
            go_wp2_with fail
            go_end0
            exact HP.out)
      · have hE : doV nb sz s F W true n = F := (if_neg hk0).trans ((if_neg hk1).trans (if_pos rfl))
        rw [hE]
        clear h2 hb2 hbx2 hE hk0 hk1
        go_enter Try.func35, Try.ntmps35
        go_wp2_with fail
        go_end0
        exact H0.out _ _ _ ⟨rfl, i, H1.out, rfl, rfl, fun _ hk => .inl hk, Kept.refl _ _⟩
end

end Go.Proofs.Ytkemocbifancfaa
