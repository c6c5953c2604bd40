/-
  'few' and VolPlays.
-/
import Derived.Test.YtnikeceeclfnpaaVolPlay
import Derived.Test.YtnikeceeclfnpaaVolArgs
namespace Go.Proofs.Ytnikeceeclfnpaa
open Go.RowKit

set_option maxHeartbeats 1600000 in
theorem vol_few (w : World) (a : Option Addr) (len cap : Nat) (A : Nat → ActV) (hl : len ≤ maxLen) (hA : ∀ i, i < len → ActAt w a i (A i)) :
    Calls Try.prog 10 #[.slice a len cap] w fun e w' => ∃ f, e = .returned (.bool f) ∧ w.grownBy w' none ∧ (f = true → len ≤ 30) := by
  have HA := Lib.hid hA; clear hA
  have hmax : maxLen = 9223372036854775807 := rfl
  rw [hmax] at hl
  have HL := Lib.hid hl
  clear hmax
  by_cases h30 : (30 : Int) < (len : Int)
  · clear hl
    go_enter Try.func10, Try.ntmps10
    go_wp2_with fail
    go_ret
    exact ⟨false, rfl, World.grownBy.refl _ _, by simp⟩
  · clear hl
    go_enter Try.func10, Try.ntmps10
    go_wp2_with fail
    go_loopw [3] (fun i wr => ∃ k : Nat, k ≤ len ∧ i = .int .i64 k ∧ w.grownBy wr none) (fun i _ => len - (intOf i).toNat)
    case atStart => exact ⟨0, Nat.zero_le _, rfl, World.grownBy.refl _ _⟩
    case round =>
      obtain ⟨k, hk, rfl, hgr⟩ := hrel
      have HGR := Lib.hid hgr; clear hgr
      by_cases hlt : k < len
      · obtain ⟨b, o, rfl, c0, c1, c2, c3, hok⟩ := HA.out k hlt
        have d1 := grown_cell HGR.out c1
        clear c0 c1 c2 c3 hok
        have i0 : (0 : Int) ≤ (k : Int) := by omega
        have i1 : (k : Int) < (len : Int) := by omega
        go_wp2_with fail
        · go_ret
          exact ⟨false, rfl, HGR.out, by simp⟩
        · exact ⟨⟨k + 1, by omega, by go_num, HGR.out⟩, by simp only [intOf]; omega⟩
      · obtain rfl : k = len := by omega
        go_wp2_with fail
        go_ret
        exact ⟨true, rfl, HGR.out, fun _ => by omega⟩

/-- what holds ahead of each act -/
def PlayRel (w : World) (X : Nat → Prop) (B g h nb sz N bx len : Nat) (ok i : Value) (wr : World) : Prop :=
  ∃ (k : Nat) (L : List UInt8) (bs : List (List UInt8)) (va : Option Addr) (m vc : Nat), k ≤ len ∧ ok = .bool true ∧ i = .int .i64 k ∧ Pair wr X B g h nb sz N L bs (.agg #[.slice va m vc, .int .i64 sz]) ∧
    Box wr bx 29 [.slice va m vc, .int .i64 sz] ∧ w.grownBy wr none

theorem playRel_step {w wr w5 : World} {X : Nat → Prop} {B g h nb sz N bx len k : Nat} {V : Value} {L : List UInt8} {bs : List (List UInt8)} {va : Option Addr} {m vc : Nat} {cs : List Value} (hk : k < len) (hX : X bx) (hgb : g ≠ bx) (hhb : h ≠ bx) (hbw : w.heap.size ≤ bx) (hhw : w.heap.size ≤ h)
    (p : Pair w5 X B g h nb sz N L bs V) (hV : V = .agg #[.slice va m vc, .int .i64 sz]) (hb : Box w5 bx 29 cs) (hcs : cs.length = 2) (hg : w.grownBy wr none) (hg5 : wr.drew.grownBy w5 (some h)) :
    PlayRel w X B g h nb sz N bx len (.bool true) (.int .i64 ((k : Int) + 1)) ((w5.setCell ⟨bx, 0, none⟩ (.slice va m vc)).setCell ⟨bx, 1, none⟩ (.int .i64 sz)) := by
  subst hV
  have hset : w5.grownBy ((w5.setCell ⟨bx, 0, none⟩ (.slice va m vc)).setCell ⟨bx, 1, none⟩ (.int .i64 sz)) (some bx) := grown_same (grown_setCell _ _ _ _) (grown_setCell _ _ _ _)
  refine ⟨k + 1, L, bs, va, m, vc, hk, rfl, by simp, ⟨p.vol.kept hset (by simpa using hgb) (by simpa using hhb), p.ref.kept (Kept.of_row hset hX), p.mt, p.inX, fun q hq => p.fresh q (Nat.le_trans hset.size hq)⟩, ?_, ?_⟩
  · obtain ⟨c0, c1, rfl⟩ : ∃ c0 c1, cs = [c0, c1] := by
      match cs, hcs with
      | [c0, c1], _ => exact ⟨c0, c1, rfl⟩
    exact (hb.set 0 (.slice va m vc)).set 1 (.int .i64 sz)
  · exact grown_new (grown_new (grown_drew hg) hhw hg5) hbw hset

set_option maxHeartbeats 3200000 in
theorem volPlays_walk (x y : Int) (a : Option Addr) (len cap : Nat) (A : Nat → ActV) (w : World) (hx : 0 ≤ x ∧ x ≤ 255) (hy : 0 ≤ y ∧ y ≤ 255) (hl : len ≤ maxLen) (hA : ∀ i, i < len → ActAt w a i (A i)) :
    Calls Try.prog 3 #[.int .u8 x, .int .u8 y, .slice a len cap] w fun e w' => e = .returned (.bool true) ∧ Below w.heap.size w w' := by
  have HA := Lib.hid hA
  have hfew := Lib.hid (vol_few w a len cap A hl hA)
  clear hA hl
  go_enter Try.func3, Try.ntmps3
  go_wp2_with fail
  refine hfew.out.mono ?_
  rintro e w1 ⟨f, rfl, hg1, hf⟩
  have HG1 := Lib.hid hg1; clear hg1
  cases f
  · go_wp2_with fail
    refine (vol_works w1).mono ?_
    rintro e w2 ⟨rfl, hb⟩
    have HB := Lib.hid hb; clear hb
    go_wp2_with fail
    go_ret
    exact ⟨rfl, grown_below (grown_trans HG1.out (grown_of_below HB.out))⟩
  · have h30 := hf rfl
    clear hf
    go_wp2_with fail
    obtain ⟨q, hq⟩ : ∃ q, x % 12 = q := ⟨_, rfl⟩
    rw [hq]
    refine (vol_new q y w1).mono ?_
    rintro e w2 ⟨g, h, N, rfl, hv, hg⟩
    have HV := Lib.hid hv; have HG2 := Lib.hid (grown_trans HG1.out hg)
    have hh2 := hv.lt
    have hge := hv.h_ge
    have hgg := hv.g_ge
    have hs1 := HG1.out.size
    clear hv hg
    go_wp2_with fail
    refine (refv_new q y (fun k => k = h) _ (fun k hk e => by omega)).mono ?_
    rintro e w3 ⟨V, rfl, hrv, hg3⟩
    obtain ⟨va, vc, rfl⟩ := hrv.open
    rw [List.length_replicate] at hrv ⊢
    have hp : Pair w3 (fun k => k = h) w1.heap.size g h (clampN q 1024) (clampN y 4096) N (List.replicate N 0) (List.replicate (clampN q 1024) (List.replicate (clampN y 4096) 0)) _ :=
      ⟨HV.out.grown hg3, hrv, ⟨List.length_replicate, fun i hi => by
        rw [List.length_replicate] at hi
        rw [List.getElem_replicate, blk_zero (mul_step HV.out.mul hi)]⟩, rfl, fun k hk e => by have := hg3.size; omega⟩
    have hvv := vol_var w3 va (clampN q 1024) vc (clampN y 4096)
    have P := Lib.hid (hp.and1 w3.heap.size (Nat.le_refl _) hvv.2 (by simp))
    have HG3 := Lib.hid (grown_trans (grown_trans HG2.out hg3) hvv.2)
    have BX := Lib.hid hvv.1
    have hs3 := hg3.size
    clear hp hvv hrv hg3 HV HG2 HG1
    generalize clampN q 1024 = nb at *
    generalize clampN y 4096 = sz at *
    go_wp2_with fail
    generalize w3.alloc (.cells #[.slice va nb vc, .int .i64 sz] 29) = w4 at *
    go_loopw [10, 11] (fun ok i wr => PlayRel w (And1 (fun k => k = h) w3.heap.size) w1.heap.size g h nb sz N w3.heap.size len ok i wr) (fun _ i _ => len - (intOf i).toNat)
    case atStart => exact ⟨0, _, _, va, nb, vc, Nat.zero_le _, rfl, rfl, P.out, BX.out, HG3.out⟩
    case round =>
      clear P BX HG3
      obtain ⟨k, L, bs, va, m, vc, hk, rfl, rfl, hp, hbx, hgr⟩ := hrel
      have P := Lib.hid hp; have BX := Lib.hid hbx; have HGR := Lib.hid hgr
      have b0 := hbx.cell 0 rfl
      have b1 := hbx.cell 1 rfl
      clear hp hbx hgr
      by_cases hlt : k < len
      · obtain ⟨b, o, rfl, c0, c1, c2, c3, hok⟩ := HA.out k hlt
        have d0 := grown_cell HGR.out c0
        have d1 := grown_cell HGR.out c1
        have d2 := grown_cell HGR.out c2
        have d3 := grown_cell HGR.out c3
        have HOK := Lib.hid (show (A k).b.length = (A k).len ∧ RB wr.drew (A k).a (A k).b from ⟨hok.len_eq, (hok.reads.oldg HGR.out).drew⟩)
        have hdr : wr.grownBy wr.drew none := grown_drew (World.grownBy.refl _ _)
        have HDO := Lib.hid (vol_do (P.out.grown hdr) (A k).i (A k).n (A k).t (A k).a (A k).len (A k).cap (A k).b HOK.out.1 HOK.out.2)
        have BXD := Lib.hid (BX.out.grown hdr)
        clear c0 c1 c2 c3 hok hdr
        have i0 : (0 : Int) ≤ (k : Int) := by omega
        have i1 : (k : Int) < (len : Int) := by omega
        go_wp2_with fail
        go_region_law (first
          | (go_simp; go_at_call 14; refine HDO.out.mono ?_; rintro e w5 ⟨V5, L5, bs5, rfl, hp5, hg5⟩; obtain ⟨va5, vc5, rfl⟩ := hp5.ref.open; have br5 := BXD.out.kept hg5 (by intro e; cases e; omega); have r0 := br5.cell 0 rfl; have r1 := br5.cell 1 rfl; have r2 := br5.free 0; have r3 := br5.free 1; have r4 := fun v => (br5.set 0 v).cell 1 rfl; have r5 := fun v => (br5.set 0 v).free 1))
        all_goals (
          have HR := Lib.hid (playRel_step (bx := w3.heap.size) hlt (.inr rfl) (by omega) (by omega) (by omega) (by omega) hp5 rfl br5 rfl HGR.out hg5)
          clear r0 r1 r2 r3 r4 r5 br5 hp5 hg5
          go_wp2_with fail
          go_roundw)
        case rel => exact HR.out
        case measure => simp only [intOf]; omega
        case rel => exact HR.out
        case measure => simp only [intOf]; omega
      · obtain rfl : k = len := by omega
        go_wp2_with fail
        refine (vol_same P.out.vol _ P.out.ref P.out.mt.1 P.out.mt.2).mono ?_
        rintro e w6 ⟨rfl, hg6⟩
        have HG6 := Lib.hid hg6; clear hg6
        go_wp2_with fail
        refine (vol_works w6).mono ?_
        rintro e w7 ⟨rfl, hb7⟩
        have HB7 := Lib.hid hb7; clear hb7
        go_wp2_with fail
        go_ret
        exact ⟨rfl, grown_below (grown_trans (grown_trans HGR.out HG6.out) (grown_of_below HB7.out))⟩
end Go.Proofs.Ytnikeceeclfnpaa
