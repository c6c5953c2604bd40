/-
  Whether acts are few; an act, done to a disk.
-/
import Derived.Test.YtkemocbifancfaaDArgs
namespace Go.Proofs.Ytkemocbifancfaa
open Go.RowKit
set_option maxRecDepth 100000

def DFewRel (w : World) (len : Nat) (A : Nat → DActV) (i : Value) (wr : World) : Prop := ∃ k : Nat, k ≤ len ∧ i = .int .i64 (k : Int) ∧ (∀ j, j < k → (A j).len ≤ 300) ∧ w.grownBy wr none
def DFewPost (w : World) (len : Nat) (A : Nat → DActV) (r : Ending) (w' : World) : Prop := ∃ f, r = .returned (.bool f) ∧ w.grownBy w' none ∧ (f = true → len ≤ 40 ∧ ∀ j, j < len → (A j).len ≤ 300)
set_option maxHeartbeats 1600000 in
theorem disk_few (w : World) (a : Option Addr) (len cap : Nat) (A : Nat → DActV) (hl : len ≤ maxLen) (hA : ∀ i, i < len → DActAt w a i (A i)) :
    Calls Try.prog 8 #[.slice a len cap] w (DFewPost w len A) := by
  have HA := Lib.hid hA; clear hA
  have hmax : maxLen = 9223372036854775807 := rfl
  rw [hmax] at hl
  clear hmax
  by_cases h40 : (40 : Int) < (len : Int)
  · go_enter Try.func8, Try.ntmps8
    go_wp2_with fail
    go_ret
    exact ⟨false, rfl, World.grownBy.refl _ _, by simp⟩
  · go_enter Try.func8, Try.ntmps8
    go_wp2_with fail
    go_loopw [3] (fun i wr => DFewRel w len A i wr) (fun i _ => len - (intOf i).toNat)
    case atStart => exact ⟨0, Nat.zero_le _, rfl, fun _ h => absurd h (by omega), World.grownBy.refl _ _⟩
    case round =>
      obtain ⟨k, hk, rfl, hall, hgr⟩ := hrel
      have HGR := Lib.hid hgr; clear hgr
      have HALL := Lib.hid hall; clear hall
      by_cases hlt : k < len
      · obtain ⟨b, o, rfl, c0, c1, c2, c3, c4, hok⟩ := HA.out k hlt
        have d4 := grown_cell HGR.out c4
        clear c0 c1 c2 c3 c4 hok
        have i0 : (0 : Int) ≤ (k : Int) := by omega
        have i1 : (k : Int) < (len : Int) := by omega
        by_cases h6 : (300 : Int) < ((A k).len : Int)
        · go_wp2_with fail
          go_ret
          exact ⟨false, rfl, HGR.out, by simp⟩
        · go_wp2_with fail
          exact ⟨⟨k + 1, by omega, by go_num, fun j hj => by
            by_cases e : j = k
            · subst e; omega
            · exact HALL.out j (by omega), HGR.out⟩, by simp only [intOf]; omega⟩
      · obtain rfl : k = len := by omega
        go_wp2_with fail
        go_ret
        exact ⟨true, rfl, HGR.out, fun _ => ⟨by omega, HALL.out⟩⟩
theorem DActAt.grown {w w' : World} {a : Option Addr} {i : Nat} {A : DActV} (h : DActAt w a i A) (hg : w.grownBy w' none) : DActAt w' a i A := by
  obtain ⟨b, o, e, c0, c1, c2, c3, c4, hok⟩ := h
  exact ⟨b, o, e, grown_cell hg c0, grown_cell hg c1, grown_cell hg c2, grown_cell hg c3, grown_cell hg c4, hok.b.grown hg, hok.k, hok.i, hok.t, hok.n⟩
theorem DActAt.ok {w : World} {a : Option Addr} {i : Nat} {A : DActV} (h : DActAt w a i A) : A.ok w := by
  obtain ⟨b, o, e, c0, c1, c2, c3, c4, hok⟩ := h
  exact hok
theorem DActV.ok.grown {w w' : World} {A : DActV} (h : A.ok w) (hg : w.grownBy w' none) : A.ok w' := ⟨h.b.grown hg, h.k, h.i, h.t, h.n⟩
/-- what an act leaves: what is sure, what is pending; the error -/
def actST (nb sz s most : Nat) (A : DActV) (S : FaceV) (T : List WriteV) : FaceV × List WriteV :=
  if A.k.tmod 6 = 0 then (S, putT nb sz A.i A.b T)
  else if A.k.tmod 6 = 1 then (S, appT most A.b (seenV nb sz s S T).l.length T)
  else if A.k.tmod 6 = 2 then (S, T ++ [⟨2, 0, [], A.n⟩])
  else if A.k.tmod 6 = 3 then (S, T ++ [⟨3, 0, [], A.n⟩])
  else if A.k.tmod 6 = 4 then (seenV nb sz s S T, [])
  else (crashV nb sz s S T A.i A.t, [])
def actErr (nb sz s most : Nat) (A : DActV) (S : FaceV) (T : List WriteV) : Int :=
  if A.k.tmod 6 = 0 then putE nb sz A.i A.b.length else if A.k.tmod 6 = 1 then appE most A.b.length (seenV nb sz s S T).l.length else 0
theorem putT_bound (nb sz : Nat) (i : Int) (b : List UInt8) (T : List WriteV) : (putT nb sz i b T).length ≤ T.length + 1 ∧ totB (putT nb sz i b T) ≤ totB T + b.length := by
  unfold putT
  split
  · rw [totB_append]
    simp [totB]
  · omega
theorem appT_bound (most : Nat) (b : List UInt8) (m : Nat) (T : List WriteV) : (appT most b m T).length ≤ T.length + 1 ∧ totB (appT most b m T) ≤ totB T + b.length := by
  unfold appT
  split
  · rw [totB_append]
    simp [totB]
  · omega
theorem crashV_end {nb sz s : Nat} (hs : 1 ≤ s) (F : FaceV) (T : List WriteV) (keep tear : Int) : endV s (crashV nb sz s F T keep tear) ≤ endV s F + totB T := by
  rw [← crashK_all]
  exact crashK_end hs F T keep tear T.length
theorem actST_bound {nb sz s : Nat} (hs : 1 ≤ s) (most : Nat) (A : DActV) (S : FaceV) (T : List WriteV) :
    (actST nb sz s most A S T).2.length ≤ T.length + 1 ∧ endV s (actST nb sz s most A S T).1 + totB (actST nb sz s most A S T).2 ≤ endV s S + totB T + A.b.length := by
  unfold actST
  have h1 := putT_bound nb sz A.i A.b T
  have h2 := appT_bound most A.b (seenV nb sz s S T).l.length T
  have h3 := seenV_end nb sz s hs T S
  have h4 := crashV_end (nb := nb) (sz := sz) hs S T A.i A.t
  have h5 : ∀ k : Int, totB (T ++ [⟨k, 0, [], A.n⟩]) = totB T := fun k => by rw [totB_append]; simp [totB]
  have h6 : totB ([] : List WriteV) = 0 := rfl
  split
  · simp only; omega
  · split
    · simp only; omega
    · split
      · simp only; rw [h5]; simp
      · split
        · simp only; rw [h5]; simp
        · split
          · simp only [h6, List.length_nil]; omega
          · simp only [h6, List.length_nil]; omega
theorem FaceAt.hs {w : World} {i : FId} {nb sz N s : Nat} {F : FaceV} (h : FaceAt w i nb sz N s F) : 1 ≤ s := by
  have := h.tape.seg
  omega
set_option maxHeartbeats 3200000 in
theorem disk_do (D : DId) (nb sz N s most : Nat) (S : FaceV) (T : List WriteV) (A : DActV) (w : World) (h : DiskAt w D nb sz N s most S T) (hA : A.ok w) (hAl : A.len ≤ 65536) (hT : T.length ≤ 1000) (hmost : most ≤ 1048576) (hbig : endV s S + totB T ≤ 1000000000) :
    Calls Try.prog 23 #[.pointer (some ⟨D.d, 0, none⟩), .agg #[.int .u8 A.k, .int .i64 A.i, .int .i64 A.t, .int .i64 A.n, .slice A.a A.len A.cap]] w (OpPost w D nb sz N s most (actST nb sz s most A S T).1 (actST nb sz s most A S T).2 (.int .i64 (actErr nb sz s most A S T))) := by
  have hg := World.grownBy_alloc w (.cells #[.int .u8 A.k, .int .i64 A.i, .int .i64 A.t, .int .i64 A.n, .slice A.a A.len A.cap] 27) none
  have h1 := h.grown hg
  have hA1 := hA.grown hg
  have hend := seenV_end nb sz s h.fj.hs T S
  unfold endV at hend hbig
  have h0n := hA.n
  have HP := Lib.hid (disk_put h1 A.i A.a A.len A.cap A.b hA1.b (by omega) hT (by omega))
  have HAp := Lib.hid (disk_append h1 A.a A.len A.cap A.b hA1.b (by omega) hT hmost (by omega))
  have HDr := Lib.hid (disk_drop h1 A.n h0n.1 hT (by omega))
  have HCu := Lib.hid (disk_cut h1 A.n h0n.1 hT (by omega))
  have HSy := Lib.hid (disk_sync h1 hT (by unfold endV; omega))
  have HCr := Lib.hid (disk_crash D nb sz N s most S T A.i A.t _ h1 hT (by unfold endV; omega))
  have HG := Lib.hid hg
  have hq : 0 ≤ A.k.tmod 6 ∧ A.k.tmod 6 < 6 := by
    have := hA.k
    rw [Int.tmod_eq_emod_of_nonneg this.1]
    omega
  unfold actST actErr
  obtain ⟨q, hqq⟩ : ∃ q, A.k.tmod 6 = q := ⟨_, rfl⟩
  rw [hqq] at hq ⊢
  have q1 : IntKind.u8.wrap q = q := by rw [IntKind.wrap_u8]; omega
  clear h h1 hA hA1 hend hbig h0n hg
  by_cases e0 : q = 0
  · rw [if_pos e0, if_pos e0]
    subst e0
    go_enter Try.func23, Try.ntmps23
    go_wp2_with fail
    refine HP.out.mono ?_
    rintro r w2 hp
    have hp2 := OpPost.re (u := .int .i64 (putE nb sz A.i A.b.length)) HG.out hp
    obtain rfl := hp.1
    have HP2 := Lib.hid hp2
    clear hp hp2 HP HAp HDr HCu HSy HCr
    go_wp2_with fail
    go_ret
    exact HP2.out
  · by_cases e1 : q = 1
    · rw [if_neg e0, if_pos e1, if_neg e0, if_pos e1]
      subst e1
      go_enter Try.func23, Try.ntmps23
      go_wp2_with fail
      refine HAp.out.mono ?_
      rintro r w2 hp
      have hp2 := OpPost.re (u := .int .i64 (appE most A.b.length (seenV nb sz s S T).l.length)) HG.out hp
      obtain rfl := hp.1
      have HP2 := Lib.hid hp2
      clear hp hp2 HP HAp HDr HCu HSy HCr
      go_wp2_with fail
      go_ret
      exact HP2.out
    · by_cases e2 : q = 2
      · rw [if_neg e0, if_neg e1, if_pos e2, if_neg e0, if_neg e1]
        subst e2
        go_enter Try.func23, Try.ntmps23
        go_wp2_with fail
        refine HDr.out.mono ?_
        rintro r w2 hp
        have hp2 := OpPost.re (u := .int .i64 0) HG.out hp
        obtain rfl := hp.1
        have HP2 := Lib.hid hp2
        clear hp hp2 HP HAp HDr HCu HSy HCr
        go_wp2_with fail
        go_ret
        exact HP2.out
      · by_cases e3 : q = 3
        · rw [if_neg e0, if_neg e1, if_neg e2, if_pos e3, if_neg e0, if_neg e1]
          subst e3
          go_enter Try.func23, Try.ntmps23
          go_wp2_with fail
          refine HCu.out.mono ?_
          rintro r w2 hp
          have hp2 := OpPost.re (u := .int .i64 0) HG.out hp
          obtain rfl := hp.1
          have HP2 := Lib.hid hp2
          clear hp hp2 HP HAp HDr HCu HSy HCr
          go_wp2_with fail
          go_ret
          exact HP2.out
        · by_cases e4 : q = 4
          · rw [if_neg e0, if_neg e1, if_neg e2, if_neg e3, if_pos e4, if_neg e0, if_neg e1]
            subst e4
            go_enter Try.func23, Try.ntmps23
            go_wp2_with fail
            refine HSy.out.mono ?_
            rintro r w2 hp
            have hp2 := OpPost.re (u := .int .i64 0) HG.out hp
            obtain rfl := hp.1
            have HP2 := Lib.hid hp2
            clear hp hp2 HP HAp HDr HCu HSy HCr
            go_wp2_with fail
            go_ret
            exact HP2.out
          · rw [if_neg e0, if_neg e1, if_neg e2, if_neg e3, if_neg e4, if_neg e0, if_neg e1]
            have e6 : q = 5 := by omega
            subst e6
            go_enter Try.func23, Try.ntmps23
            go_wp2_with fail
            refine HCr.out.mono ?_
            rintro r w2 hp
            have hp2 := OpPost.re (u := .int .i64 0) HG.out hp
            obtain rfl := hp.1
            have HP2 := Lib.hid hp2
            clear hp hp2 HP HAp HDr HCu HSy HCr
            go_wp2_with fail
            go_ret
            exact HP2.out

end Go.Proofs.Ytkemocbifancfaa
