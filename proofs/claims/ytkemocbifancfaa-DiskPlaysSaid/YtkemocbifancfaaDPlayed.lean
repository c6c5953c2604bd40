/-
  Whether acts are few; an act, done to a disk; a disk behind acts.
-/
import Derived.Test.YtkemocbifancfaaDArgs
namespace Go.Proofs.Ytkemocbifancfaa
open Go.RowKit
set_option maxRecDepth 100000

def DFewRel (w : World) (len : Nat) (A : Nat → DActV) (i : Value) (wr : World) : Prop := ∃ k : Nat, k ≤ len ∧ i = .int .i64 (k : Int) ∧ (∀ j, j < k → (A j).len ≤ 300) ∧ w.grownBy wr none
def DFewPost (w : World) (len : Nat) (A : Nat → DActV) (r : Ending) (w' : World) : Prop := ∃ f, r = .returned (.bool f) ∧ w.grownBy w' none ∧ (f = true → len ≤ 40 ∧ ∀ j, j < len → (A j).len ≤ 300)
set_option maxHeartbeats 1600000 in
theorem disk_few (w : World) (a : Option Addr) (len cap : Nat) (A : Nat → DActV) (hl : len ≤ maxLen) (hA : ∀ i, i < len → DActAt w a i (A i)) :
    Calls Try.prog 8 #[.slice a len cap] w (DFewPost w len A) := by
  have HA := Lib.hid hA; clear hA
  have hmax : maxLen = 9223372036854775807 := rfl
  rw [hmax] at hl
  clear hmax
  by_cases h40 : (40 : Int) < (len : Int)
  · go_enter Try.func8, Try.ntmps8
    go_wp2_with fail
    go_ret
    exact ⟨false, rfl, World.grownBy.refl _ _, by simp⟩
  · go_enter Try.func8, Try.ntmps8
    go_wp2_with fail
    go_loopw [3] (fun i wr => DFewRel w len A i wr) (fun i _ => len - (intOf i).toNat)
    case atStart => exact ⟨0, Nat.zero_le _, rfl, fun _ h => absurd h (by omega), World.grownBy.refl _ _⟩
    case round =>
      obtain ⟨k, hk, rfl, hall, hgr⟩ := hrel
      have HGR := Lib.hid hgr; clear hgr
      have HALL := Lib.hid hall; clear hall
      by_cases hlt : k < len
      · obtain ⟨b, o, rfl, c0, c1, c2, c3, c4, hok⟩ := HA.out k hlt
        have d4 := grown_cell HGR.out c4
        clear c0 c1 c2 c3 c4 hok
        have i0 : (0 : Int) ≤ (k : Int) := by omega
        have i1 : (k : Int) < (len : Int) := by omega
        by_cases h6 : (300 : Int) < ((A k).len : Int)
        · go_wp2_with fail
          go_ret
          exact ⟨false, rfl, HGR.out, by simp⟩
        · go_wp2_with fail
          exact ⟨⟨k + 1, by omega, by go_num, fun j hj => by
            by_cases e : j = k
            · subst e; omega
            · exact HALL.out j (by omega), HGR.out⟩, by simp only [intOf]; omega⟩
      · obtain rfl : k = len := by omega
        go_wp2_with fail
        go_ret
        exact ⟨true, rfl, HGR.out, fun _ => ⟨by omega, HALL.out⟩⟩
theorem DActAt.grown {w w' : World} {a : Option Addr} {i : Nat} {A : DActV} (h : DActAt w a i A) (hg : w.grownBy w' none) : DActAt w' a i A := by
  obtain ⟨b, o, e, c0, c1, c2, c3, c4, hok⟩ := h
  exact ⟨b, o, e, grown_cell hg c0, grown_cell hg c1, grown_cell hg c2, grown_cell hg c3, grown_cell hg c4, hok.b.grown hg, hok.k, hok.i, hok.t, hok.n⟩
theorem DActAt.ok {w : World} {a : Option Addr} {i : Nat} {A : DActV} (h : DActAt w a i A) : A.ok w := by
  obtain ⟨b, o, e, c0, c1, c2, c3, c4, hok⟩ := h
  exact hok
theorem DActV.ok.grown {w w' : World} {A : DActV} (h : A.ok w) (hg : w.grownBy w' none) : A.ok w' := ⟨h.b.grown hg, h.k, h.i, h.t, h.n⟩
/-- what an act leaves: what is sure, what is pending; the error -/
def actST (nb sz s most : Nat) (A : DActV) (S : FaceV) (T : List WriteV) : FaceV × List WriteV :=
  if A.k.tmod 6 = 0 then (S, putT nb sz A.i A.b T)
  else if A.k.tmod 6 = 1 then (S, appT most A.b (seenV nb sz s S T).l.length T)
  else if A.k.tmod 6 = 2 then (S, T ++ [⟨2, 0, [], A.n⟩])
  else if A.k.tmod 6 = 3 then (S, T ++ [⟨3, 0, [], A.n⟩])
  else if A.k.tmod 6 = 4 then (seenV nb sz s S T, [])
  else (crashV nb sz s S T A.i A.t, [])
def actErr (nb sz s most : Nat) (A : DActV) (S : FaceV) (T : List WriteV) : Int :=
  if A.k.tmod 6 = 0 then putE nb sz A.i A.b.length else if A.k.tmod 6 = 1 then appE most A.b.length (seenV nb sz s S T).l.length else 0
theorem putT_bound (nb sz : Nat) (i : Int) (b : List UInt8) (T : List WriteV) : (putT nb sz i b T).length ≤ T.length + 1 ∧ totB (putT nb sz i b T) ≤ totB T + b.length := by
  unfold putT
  split
  · rw [totB_append]
    simp [totB]
  · omega
theorem appT_bound (most : Nat) (b : List UInt8) (m : Nat) (T : List WriteV) : (appT most b m T).length ≤ T.length + 1 ∧ totB (appT most b m T) ≤ totB T + b.length := by
  unfold appT
  split
  · rw [totB_append]
    simp [totB]
  · omega
theorem crashV_end {nb sz s : Nat} (hs : 1 ≤ s) (F : FaceV) (T : List WriteV) (keep tear : Int) : endV s (crashV nb sz s F T keep tear) ≤ endV s F + totB T := by
  rw [← crashK_all]
  exact crashK_end hs F T keep tear T.length
theorem actST_bound {nb sz s : Nat} (hs : 1 ≤ s) (most : Nat) (A : DActV) (S : FaceV) (T : List WriteV) :
    (actST nb sz s most A S T).2.length ≤ T.length + 1 ∧ endV s (actST nb sz s most A S T).1 + totB (actST nb sz s most A S T).2 ≤ endV s S + totB T + A.b.length := by
  unfold actST
  have h1 := putT_bound nb sz A.i A.b T
  have h2 := appT_bound most A.b (seenV nb sz s S T).l.length T
  have h3 := seenV_end nb sz s hs T S
  have h4 := crashV_end (nb := nb) (sz := sz) hs S T A.i A.t
  have h5 : ∀ k : Int, totB (T ++ [⟨k, 0, [], A.n⟩]) = totB T := fun k => by rw [totB_append]; simp [totB]
  have h6 : totB ([] : List WriteV) = 0 := rfl
  split
  · simp only; omega
  · split
    · simp only; omega
    · split
      · simp only; rw [h5]; simp
      · split
        · simp only; rw [h5]; simp
        · split
          · simp only [h6, List.length_nil]; omega
          · simp only [h6, List.length_nil]; omega
theorem FaceAt.hs {w : World} {i : FId} {nb sz N s : Nat} {F : FaceV} (h : FaceAt w i nb sz N s F) : 1 ≤ s := by
  have := h.tape.seg
  omega
set_option maxHeartbeats 3200000 in
theorem disk_do (D : DId) (nb sz N s most : Nat) (S : FaceV) (T : List WriteV) (A : DActV) (w : World) (h : DiskAt w D nb sz N s most S T) (hA : A.ok w) (hAl : A.len ≤ 65536) (hT : T.length ≤ 1000) (hmost : most ≤ 1048576) (hbig : endV s S + totB T ≤ 1000000000) :
    Calls Try.prog 23 #[.pointer (some ⟨D.d, 0, none⟩), .agg #[.int .u8 A.k, .int .i64 A.i, .int .i64 A.t, .int .i64 A.n, .slice A.a A.len A.cap]] w (OpPost w D nb sz N s most (actST nb sz s most A S T).1 (actST nb sz s most A S T).2 (.int .i64 (actErr nb sz s most A S T))) := by
  have hg := World.grownBy_alloc w (.cells #[.int .u8 A.k, .int .i64 A.i, .int .i64 A.t, .int .i64 A.n, .slice A.a A.len A.cap] 27) none
  have h1 := h.grown hg
  have hA1 := hA.grown hg
  have hend := seenV_end nb sz s h.fj.hs T S
  unfold endV at hend hbig
  have h0n := hA.n
  have HP := Lib.hid (disk_put h1 A.i A.a A.len A.cap A.b hA1.b (by omega) hT (by omega))
  have HAp := Lib.hid (disk_append h1 A.a A.len A.cap A.b hA1.b (by omega) hT hmost (by omega))
  have HDr := Lib.hid (disk_drop h1 A.n h0n.1 hT (by omega))
  have HCu := Lib.hid (disk_cut h1 A.n h0n.1 hT (by omega))
  have HSy := Lib.hid (disk_sync h1 hT (by unfold endV; omega))
  have HCr := Lib.hid (disk_crash D nb sz N s most S T A.i A.t _ h1 hT (by unfold endV; omega))
  have HG := Lib.hid hg
  have hq : 0 ≤ A.k.tmod 6 ∧ A.k.tmod 6 < 6 := by
    have := hA.k
    rw [Int.tmod_eq_emod_of_nonneg this.1]
    omega
  unfold actST actErr
  obtain ⟨q, hqq⟩ : ∃ q, A.k.tmod 6 = q := ⟨_, rfl⟩
  rw [hqq] at hq ⊢
  have q1 : IntKind.u8.wrap q = q := by rw [IntKind.wrap_u8]; omega
  clear h h1 hA hA1 hend hbig h0n hg
  by_cases e0 : q = 0
  · rw [if_pos e0, if_pos e0]
    subst e0
    go_enter Try.func23, Try.ntmps23
    go_wp2_with fail
    refine HP.out.mono ?_
    rintro r w2 hp
    have hp2 := OpPost.re (u := .int .i64 (putE nb sz A.i A.b.length)) HG.out hp
    obtain rfl := hp.1
    have HP2 := Lib.hid hp2
    clear hp hp2 HP HAp HDr HCu HSy HCr
    go_wp2_with fail
    go_ret
    exact HP2.out
  · by_cases e1 : q = 1
    · rw [if_neg e0, if_pos e1, if_neg e0, if_pos e1]
      subst e1
      go_enter Try.func23, Try.ntmps23
      go_wp2_with fail
      refine HAp.out.mono ?_
      rintro r w2 hp
      have hp2 := OpPost.re (u := .int .i64 (appE most A.b.length (seenV nb sz s S T).l.length)) HG.out hp
      obtain rfl := hp.1
      have HP2 := Lib.hid hp2
      clear hp hp2 HP HAp HDr HCu HSy HCr
      go_wp2_with fail
      go_ret
      exact HP2.out
    · by_cases e2 : q = 2
      · rw [if_neg e0, if_neg e1, if_pos e2, if_neg e0, if_neg e1]
        subst e2
        go_enter Try.func23, Try.ntmps23
        go_wp2_with fail
        refine HDr.out.mono ?_
        rintro r w2 hp
        have hp2 := OpPost.re (u := .int .i64 0) HG.out hp
        obtain rfl := hp.1
        have HP2 := Lib.hid hp2
        clear hp hp2 HP HAp HDr HCu HSy HCr
        go_wp2_with fail
        go_ret
        exact HP2.out
      · by_cases e3 : q = 3
        · rw [if_neg e0, if_neg e1, if_neg e2, if_pos e3, if_neg e0, if_neg e1]
          subst e3
          go_enter Try.func23, Try.ntmps23
          go_wp2_with fail
          refine HCu.out.mono ?_
          rintro r w2 hp
          have hp2 := OpPost.re (u := .int .i64 0) HG.out hp
          obtain rfl := hp.1
          have HP2 := Lib.hid hp2
          clear hp hp2 HP HAp HDr HCu HSy HCr
          go_wp2_with fail
          go_ret
          exact HP2.out
        · by_cases e4 : q = 4
          · rw [if_neg e0, if_neg e1, if_neg e2, if_neg e3, if_pos e4, if_neg e0, if_neg e1]
            subst e4
            go_enter Try.func23, Try.ntmps23
            go_wp2_with fail
            refine HSy.out.mono ?_
            rintro r w2 hp
            have hp2 := OpPost.re (u := .int .i64 0) HG.out hp
            obtain rfl := hp.1
            have HP2 := Lib.hid hp2
            clear hp hp2 HP HAp HDr HCu HSy HCr
            go_wp2_with fail
            go_ret
            exact HP2.out
          · rw [if_neg e0, if_neg e1, if_neg e2, if_neg e3, if_neg e4, if_neg e0, if_neg e1]
            have e6 : q = 5 := by omega
            subst e6
            go_enter Try.func23, Try.ntmps23
            go_wp2_with fail
            refine HCr.out.mono ?_
            rintro r w2 hp
            have hp2 := OpPost.re (u := .int .i64 0) HG.out hp
            obtain rfl := hp.1
            have HP2 := Lib.hid hp2
            clear hp hp2 HP HAp HDr HCu HSy HCr
            go_wp2_with fail
            go_ret
            exact HP2.out

def PlayedSt (w : World) (nb sz s most d n : Nat) (w' : World) : Prop := ∃ (D : DId) (N : Nat) (S : FaceV) (T : List WriteV), D.d = d ∧ Live w w' D nb sz N s most S T ∧ T.length ≤ n ∧ endV s S + totB T ≤ 300 * n
theorem PlayedSt.later {w w1 w2 : World} {nb sz s most d n : Nat} (h : PlayedSt w nb sz s most d n w1) (hg : w1.grownBy w2 none) : PlayedSt w nb sz s most d n w2 := by
  obtain ⟨D, N, S, T, e, hl, h1, h2⟩ := h
  exact ⟨D, N, S, T, e, hl.later hg, h1, h2⟩
theorem PlayedSt.grown {w w1 : World} {nb sz s most d n : Nat} (h : PlayedSt w nb sz s most d n w1) : w.grownBy w1 none := by
  obtain ⟨D, N, S, T, e, hl, h1, h2⟩ := h
  exact hl.grown
def PlayedRel (w : World) (nb sz s most d len : Nat) (i : Value) (wr : World) : Prop := ∃ k : Nat, k ≤ len ∧ i = .int .i64 (k : Int) ∧ PlayedSt w nb sz s most d k wr
def PlayedPost (w : World) (nb sz s most len : Nat) (r : Ending) (w' : World) : Prop := ∃ d : Nat, r = .returned (.pointer (some ⟨d, 0, none⟩)) ∧ PlayedSt w nb sz s most d len w'
/-- one act more -/
theorem played_do {w wr : World} {nb sz s most d k : Nat} (h : PlayedSt w nb sz s most d k wr) (A : DActV) (hA : A.ok wr) (hAl : A.len ≤ 300) (hk : k ≤ 100) (hm : most ≤ 1048576) :
    Calls Try.prog 23 #[.pointer (some ⟨d, 0, none⟩), .agg #[.int .u8 A.k, .int .i64 A.i, .int .i64 A.t, .int .i64 A.n, .slice A.a A.len A.cap]] wr (fun r w' => (∃ e, r = .returned (.int .i64 e)) ∧ PlayedSt w nb sz s most d (k + 1) w') := by
  obtain ⟨D, N, S, T, e, hl, h1, h2⟩ := h
  subst e
  refine (disk_do D nb sz N s most S T A wr hl.disk hA (by omega) (by omega) hm (by omega)).mono ?_
  intro r w' hp
  obtain ⟨er, D', hl', e'⟩ := hl.op hp
  have hb := actST_bound hl.disk.fj.hs (nb := nb) (sz := sz) most A S T
  have hlen := hA.b.len_eq
  exact ⟨⟨_, er⟩, D', N, _, _, e', hl', by omega, by omega⟩
set_option maxHeartbeats 3200000 in
theorem disk_played' (w : World) (a : Option Addr) (len cap : Nat) (A : Nat → DActV) (nb sz s most : Nat) (hn : Calls Try.prog 20 #[.int .i64 4, .int .i64 32, .int .i64 64, .int .i64 4000] w (NewDPost w nb sz s most)) (hm : most ≤ 1048576) (hl : len ≤ 40) (hA : ∀ i, i < len → DActAt w a i (A i)) (hAl : ∀ i, i < len → (A i).len ≤ 300) :
    Calls Try.prog 10 #[.slice a len cap] w (PlayedPost w nb sz s most len) := by
  have HN := Lib.hid hn; have HM := Lib.hid hm
  have HA := Lib.hid hA; have HAL := Lib.hid hAl
  clear hn hm hA hAl
  go_enter Try.func10, Try.ntmps10
  go_wp2_with fail
  refine HN.out.mono ?_
  rintro r w1 hp
  obtain ⟨D, N, rfl, hlv⟩ := Live.made hp
  have hst : PlayedSt w nb sz s most D.d 0 w1 := ⟨D, N, _, _, rfl, hlv, by simp, by simp [endV, totB]⟩
  obtain ⟨d, hd⟩ : ∃ d, D.d = d := ⟨_, rfl⟩
  rw [hd] at hst ⊢
  have HST := Lib.hid hst
  clear hp hlv hst hd HN
  go_wp2_with fail
  go_loopw [4] (fun i wr => PlayedRel w nb sz s most d len i wr) (fun i _ => len - (intOf i).toNat)
  case atStart => exact ⟨0, Nat.zero_le _, rfl, HST.out⟩
  case round =>
    obtain ⟨k, hk, rfl, hst⟩ := hrel
    have HS2 := Lib.hid hst; clear hst
    by_cases hlt : k < len
    · have hg := HS2.out.grown
      obtain ⟨b, o, rfl, c0, c1, c2, c3, c4, hok⟩ := (HA.out k hlt).grown hg
      have i0 : (0 : Int) ≤ (k : Int) := by omega
      have i1 : (k : Int) < (len : Int) := by omega
      have HC := Lib.hid (played_do HS2.out (A k) hok (HAL.out k hlt) (by omega) HM.out)
      clear hok hg
      go_wp2_with fail
      refine HC.out.mono ?_
      rintro r w2 ⟨⟨e, rfl⟩, hst⟩
      have HS3 := Lib.hid hst; clear hst
      go_wp2_with fail
      exact ⟨⟨k + 1, by omega, by go_num, HS3.out⟩, by simp only [intOf]; omega⟩
    · obtain rfl : k = len := by omega
      go_wp2_with fail
      go_ret
      exact ⟨d, rfl, HS2.out⟩
theorem disk_played (w : World) (a : Option Addr) (len cap : Nat) (A : Nat → DActV) (hl : len ≤ 40) (hA : ∀ i, i < len → DActAt w a i (A i)) (hAl : ∀ i, i < len → (A i).len ≤ 300) :
    Calls Try.prog 10 #[.slice a len cap] w (PlayedPost w 4 32 64 4000 len) :=
  disk_played' w a len cap A 4 32 64 4000 (disk_new 4 32 64 4000 w) (by omega) hl hA hAl

end Go.Proofs.Ytkemocbifancfaa
