/-
  A face's copy; bytes that come behind a disk's tape.
-/
import Derived.Test.YtkemocbifancfaaDGet
namespace Go.Proofs.Ytkemocbifancfaa
open Go.RowKit
set_option maxRecDepth 100000

def FaceCopyPost (w : World) (nb sz N s : Nat) (F : FaceV) (r : Ending) (w' : World) : Prop :=
  ∃ i : FId, r = .returned (.agg #[.pointer (some ⟨i.gv, 0, none⟩), .pointer (some ⟨i.gt, 0, none⟩)]) ∧ FaceAt w' i nb sz N s F ∧ (∀ k, FX i k → w.heap.size ≤ k) ∧ w.grownBy w' none
theorem grow2 (w : World) (g : Nat) (a b : Value) : w.grownBy ((w.setCell ⟨g, 0, none⟩ a).setCell ⟨g, 1, none⟩ b) (some g) := grown_same (grown_setCell _ _ _ _) (grown_setCell _ _ _ _)
theorem keep2 {a b : World} {g : Nat} {u v : Value} (hlo : a.heap.size ≤ g) (h : a.grownBy b none) : a.grownBy ((b.setCell ⟨g, 0, none⟩ u).setCell ⟨g, 1, none⟩ v) none := grown_new h hlo (grow2 _ _ _ _)
theorem face_both {wa wb : World} {b nb sz N N' s gv h gt M B : Nat} {F : FaceV} {vs : List Value} (hN : nb * sz = N) (hv : VolAt wa b gv h nb sz N' F.L) (hs : b ≤ wa.heap.size) (hg2 : wa.grownBy wb none) (ht : TapeIs wb gt M B s F.f F.l vs) (h1 : wa.heap.size ≤ gt) (h2 : wa.heap.size ≤ M) (h3 : B ≤ wb.heap.size) (h4 : RowsOf wa.heap.size [] vs) :
    FaceAt wb ⟨gv, h, gt, M, B, vs⟩ nb sz N s F ∧ ∀ k, FX ⟨gv, h, gt, M, B, vs⟩ k → b ≤ k := by
  have hN' : N' = N := by rw [← hN]; exact hv.mul.symm
  subst hN'
  have hl := hv.lt
  have hnew : ∀ k, TX gt M vs k → wa.heap.size ≤ k := fun k hk => by
    rcases hk with e | e | ⟨v, hv, e⟩
    · omega
    · omega
    · rcases h4 v hv k e with ⟨u, hu, _⟩ | h5
      · cases hu
      · exact h5
  have hv2 := hv.grown hg2
  refine ⟨⟨⟨hv2.mul, hv2.box, hv2.row, hv2.len, hv2.nb_le, hv2.sz_le, Nat.zero_le _, Nat.zero_le _, hv2.ne⟩, ht, h3, fun e => ?_, fun e => ?_⟩, fun k hk => ?_⟩
  · have h6 : wa.heap.size ≤ gv := hnew _ e
    omega
  · have h6 : wa.heap.size ≤ h := hnew _ e
    omega
  · rcases hk with e | e | e
    · have h6 : k = gv := e
      have := hv.g_ge; omega
    · have h6 : k = h := e
      have := hv.h_ge; omega
    · have h6 : wa.heap.size ≤ k := hnew _ e
      omega
section
variable {w : World} {i : FId} {nb sz N s : Nat} {F : FaceV} (a o : Nat) (c0 : w.cell? ⟨a, o, none⟩ = some (.pointer (some ⟨i.gv, 0, none⟩))) (c1 : w.cell? ⟨a, o + 1, none⟩ = some (.pointer (some ⟨i.gt, 0, none⟩))) (h : FaceAt w i nb sz N s F)
set_option maxHeartbeats 1600000 in
include c0 c1 h in
theorem face_copy : Calls Try.prog 36 #[.pointer (some ⟨a, o, none⟩)] w (FaceCopyPost w nb sz N s F) := by
  have hN := h.vol.mul
  have HV := Lib.hid (fun u (hu : w.grownBy u none) => vol_copy (h.vol.grown hu))
  have HT := Lib.hid (fun u (hu : w.grownBy u none) => tape_copy i.gt i.M i.B s F.f F.l i.vs u (h.tape.grown hu))
  have HNN := Lib.hid (fun _ : True => hN)
  have k0 := fun u (hu : w.grownBy u none) => grown_cell hu c0
  have k1 := fun u (hu : w.grownBy u none) => grown_cell hu c1
  have hg1 := World.grownBy_alloc w (.cells #[.pointer none, .pointer none] 68) none
  have hbx := Box.new w 68 [.pointer none, .pointer none] w.heap.size rfl
  have hlo : w.heap.size ≤ w.heap.size := Nat.le_refl _
  obtain ⟨w1, hw1⟩ : ∃ w1, w.alloc (.cells #[.pointer none, .pointer none] 68) = w1 := ⟨_, rfl⟩
  have hbx' : Box w1 w.heap.size 68 [.pointer none, .pointer none] := by rw [← hw1]; exact hbx
  rw [hw1] at hg1
  have lk := look_atB hbx'
  have lo := fun u (hu : w1.grownBy u none) => (hbx'.grown hu).open
  have HW1 := Lib.hid (fun _ : True => hw1)
  have hS1 : w.grownBy w1 none := hg1
  have hS0 : w.grownBy w1.drew none := grown_drew hg1
  have hR0 : w1.grownBy w1.drew none := grown_drew1 _
  have hR1 : w1.grownBy w1 none := World.grownBy.refl _ _
  clear h hN c0 c1 hbx hbx' hw1 hg1
  go_enter Try.func36, Try.ntmps36
  go_wp2_with fail
  rw [HW1.out trivial]
  go_region_held_law (fun w' => w.grownBy w' none) (with_reducible (first | assumption | exact keep2 hlo (by assumption))) (first
    | (go_at_call 61; (with_reducible refine (HV.out _ (by assumption)).mono ?_); rintro r wa ⟨gv, hh, N', rfl, hva, hga⟩; have hSa := keepT hga (by with_reducible assumption); have hRa := keepT hga hR0)
    | (go_at_call 62; (with_reducible refine (HT.out _ (by assumption)).mono ?_); rintro r wb ⟨gt, M, B, vs, rfl, htb, hb1, hb2, hb3, hb4, hgb⟩; have hSb := keepT hgb (by with_reducible assumption); have hRb := keepT hgb hRa))
  all_goals (
    have hsz : w1.drew.heap.size = w.heap.size + 1 := by rw [← HW1.out trivial]; simp
    rw [hsz] at hva
    have hb := face_both (HNN.out trivial) hva (by have := hga.size; rw [hsz] at this; exact this) hgb htb hb1 hb2 hb3 hb4
    have HF := Lib.hid hb.1
    have HL := Lib.hid hb.2
    have HG := Lib.hid hSb
    have z0 := lk _ hRb
    have z1 := lo _ hRb
    clear hva htb hb1 hb2 hb3 hb4 hgb hga hSa hSb hRa hRb hb k0 k1 lk lo hS0 hS1 hR0 hR1
    go_wp2_with fail
    refine bodyPost_ret (v := .agg #[.pointer (some ⟨gv, 0, none⟩), .pointer (some ⟨gt, 0, none⟩)]) ?_ rfl ?_
    · simp only [results]
      go_simp
    · have hg2 := grow2 wb w.heap.size (.pointer (some ⟨gv, 0, none⟩)) (.pointer (some ⟨gt, 0, none⟩))
      refine ⟨_, rfl, HF.out.keptX (X := fun k => k = w.heap.size) (Kept.of_row hg2 rfl) (fun k hk e => by have := HL.out k hk; omega), fun k hk => by have := HL.out k hk; omega, grown_new HG.out (Nat.le_refl _) hg2⟩)
end
/-- what 'Append' answers -/
def appE (most n m : Nat) : Int := if 65536 < n then 7 else if most < m + n then 4 else 0
def appT (most : Nat) (b : List UInt8) (m : Nat) (T : List WriteV) : List WriteV := if appE most b.length m = 0 then T ++ [⟨1, 0, b, 0⟩] else T
section
variable {w : World} {D : DId} {nb sz N s most : Nat} {S : FaceV} {T : List WriteV} (h : DiskAt w D nb sz N s most S T)
set_option maxHeartbeats 1600000 in
include h in
theorem disk_append (xa : Option Addr) (xn xc : Nat) (b : List UInt8) (hx : InB w xa xn xc b) (hxn : xn ≤ 1000000) (hT : T.length ≤ 1000) (hmost : most ≤ 1048576) (hbig : (seenV nb sz s S T).f * s + (seenV nb sz s S T).l.length + xn ≤ 1099511627776) :
    Calls Try.prog 13 #[.pointer (some ⟨D.d, 0, none⟩), .slice xa xn xc] w (OpPost w D nb sz N s most S (appT most b (seenV nb sz s S T).l.length T) (.int .i64 (appE most b.length (seenV nb sz s S T).l.length))) := by
  have HS := Lib.hid (disk_seen h)
  have HI := Lib.hid (fun v w' (hg : w.grownBy w' none) => OpPost.idle (v := v) h hg)
  have HE := Lib.hid (fun u (hu : w.grownBy u none) => disk_end (h.grown hu))
  have HF := Lib.hid (fun u (hu : w.grownBy u none) => disk_first (h.grown hu) (by omega))
  have HP := Lib.hid (fun u (hu : w.grownBy u none) => disk_pend D nb sz N s most S T ⟨1, 0, b, 0⟩ xa xn xc u (h.grown hu) (hx.grown hu) hxn (by simp only; omega) hT hbig)
  have hl := hx.len_eq
  have c4 := fun u (hu : w.grownBy u none) => (h.box.grown hu).cell 4 rfl
  obtain ⟨m, hm⟩ : ∃ m, (seenV nb sz s S T).l.length = m := ⟨_, rfl⟩
  obtain ⟨F, hF⟩ : ∃ F, (seenV nb sz s S T).f * s = F := ⟨_, rfl⟩
  obtain ⟨E, hE⟩ : ∃ E, F + m = E := ⟨_, rfl⟩
  rw [hm] at HE hbig ⊢
  rw [hF] at HE HF hbig
  rw [hE] at HE hbig
  obtain ⟨e, he⟩ : ∃ e, appE most b.length m = e := ⟨_, rfl⟩
  obtain ⟨T', hT'⟩ : ∃ T', appT most b m T = T' := ⟨_, rfl⟩
  have HEE := Lib.hid (fun _ : True => And.intro he hT')
  rw [he, hT']
  have hS1 := World.grownBy.refl w none
  have hS0 : w.grownBy w.drew none := grown_drew1 w
  have q0 : (E : Int) - (F : Int) = (m : Int) := by omega
  have q1 : IntKind.i64.wrap (m : Int) = (m : Int) := by rw [IntKind.wrap_i64]; omega
  have q2 : IntKind.i64.wrap ((most : Int) - (m : Int)) = (most : Int) - (m : Int) := by rw [IntKind.wrap_i64]; omega
  clear h hx hxn hT he hT' hF hm
  by_cases h1 : (xn : Int) > 65536
  · have HQ := Lib.hid (fun _ : True => show e = 7 ∧ T' = T by
      obtain ⟨e1, e2⟩ := HEE.out trivial
      have e3 : appE most b.length m = 7 := if_pos (by omega)
      refine ⟨by rw [← e1, e3], ?_⟩
      rw [← e2]
      exact if_neg (by rw [e3]; decide))
    go_enter Try.func13, Try.ntmps13
    go_wp2_with fail
    refine HS.out.mono ?_
    rintro r w1 ⟨rfl, rfl⟩
    go_wp2_with fail
    go_ret
    obtain ⟨e1, e2⟩ := HQ.out trivial
    rw [e1, e2]
    exact HI.out _ _ (World.grownBy.refl _ _)
  · by_cases h2 : (xn : Int) > (most : Int) - (m : Int)
    · have HQ := Lib.hid (fun _ : True => show e = 4 ∧ T' = T by
        obtain ⟨e1, e2⟩ := HEE.out trivial
        have e3 : appE most b.length m = 4 := (if_neg (by omega)).trans (if_pos (by omega))
        refine ⟨by rw [← e1, e3], ?_⟩
        rw [← e2]
        exact if_neg (by rw [e3]; decide))
      go_enter Try.func13, Try.ntmps13
      go_wp2_with fail
      refine HS.out.mono ?_
      rintro r w1 ⟨rfl, rfl⟩
      go_wp2_with fail
      go_region_held_law (fun w' => w1.grownBy w' none) (with_reducible assumption) (first
        | (go_at_call 30; (with_reducible refine (HE.out _ (by assumption)).mono ?_); rintro r wa ⟨rfl, rfl⟩)
        | (go_at_call 29; (with_reducible refine (HF.out _ (by assumption)).mono ?_); rintro r wa ⟨rfl, hga⟩; have hSa := keepT hga (by with_reducible assumption)))
      all_goals (
        have HG := Lib.hid hSa
        clear c4 hSa hS0 hS1
        go_wp2_with fail
        go_ret
        obtain ⟨e1, e2⟩ := HQ.out trivial
        rw [e1, e2]
        exact HI.out _ _ HG.out)
    · have HQ := Lib.hid (fun _ : True => show e = 0 ∧ T' = T ++ [⟨1, 0, b, 0⟩] by
        obtain ⟨e1, e2⟩ := HEE.out trivial
        have e3 : appE most b.length m = 0 := (if_neg (by omega)).trans (if_neg (by omega))
        refine ⟨by rw [← e1, e3], ?_⟩
        rw [← e2]
        exact if_pos e3)
      go_enter Try.func13, Try.ntmps13
      go_wp2_with fail
      refine HS.out.mono ?_
      rintro r w1 ⟨rfl, rfl⟩
      go_wp2_with fail
      go_region_held_law (fun w' => w1.grownBy w' none) (with_reducible assumption) (first
        | (go_at_call 30; (with_reducible refine (HE.out _ (by assumption)).mono ?_); rintro r wa ⟨rfl, rfl⟩)
        | (go_at_call 29; (with_reducible refine (HF.out _ (by assumption)).mono ?_); rintro r wa ⟨rfl, hga⟩; have hSa := keepT hga (by with_reducible assumption)))
      all_goals (
        have HG := Lib.hid hSa
        clear c4 hSa hS0 hS1
        go_wp2_with fail
        refine (HP.out _ HG.out).mono ?_
        rintro r wb hp
        obtain ⟨rfl, hp2⟩ := id hp
        have HP2 := Lib.hid hp
        clear hp hp2
        go_wp2_with fail
        go_ret
        obtain ⟨e1, e2⟩ := HQ.out trivial
        rw [e1, e2]
        exact OpPost.re HG.out HP2.out)
end

end Go.Proofs.Ytkemocbifancfaa
