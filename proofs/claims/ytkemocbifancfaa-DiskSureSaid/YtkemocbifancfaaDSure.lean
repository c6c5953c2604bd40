/-
  A crash that keeps all is a sync; one behind a sync changes nothing.
-/
import Derived.Test.YtkemocbifancfaaDTwins
namespace Go.Proofs.Ytkemocbifancfaa
open Go.RowKit
set_option maxRecDepth 100000

theorem crashV_none (nb sz s : Nat) (F : FaceV) (keep tear : Int) : crashV nb sz s F [] keep tear = F := by
  unfold crashV
  rw [List.drop_nil]
  rfl
set_option maxHeartbeats 3200000 in
theorem diskSure_walk (a : Option Addr) (len cap : Nat) (A : Nat → DActV) (keep tear : Int) (w : World) (hl : len ≤ maxLen) (hA : ∀ i, i < len → DActAt w a i (A i)) :
    Calls Try.prog 4 #[.slice a len cap, .int .i64 keep, .int .i64 tear] w (fun r w' => r = .returned (.bool true) ∧ Below w.heap.size w w') := by
  have HF := Lib.hid (disk_few w a len cap A hl hA)
  obtain ⟨nb, sz, s, most, hp⟩ : ∃ nb sz s most : Nat, ∀ u, w.grownBy u none → len ≤ 40 → (∀ j, j < len → (A j).len ≤ 300) → Calls Try.prog 10 #[.slice a len cap] u (PlayedPost u nb sz s most len) :=
    ⟨4, 32, 64, 4000, fun u hu h40 h3 => disk_played u a len cap A h40 (fun i hi => (hA i hi).grown hu) h3⟩
  have HP := Lib.hid hp
  clear hl hA hp
  go_enter Try.func4, Try.ntmps4
  go_wp2_with fail
  refine HF.out.mono ?_
  rintro r w1 ⟨f1, rfl, hg1, hf1⟩
  have HG1 := Lib.hid hg1
  have HFF := Lib.hid hf1
  clear hg1 hf1 HF
  cases f1 with
  | false =>
    go_wp2_with fail
    refine (disk_works w1).mono ?_
    rintro r w2 ⟨rfl, hg2⟩
    have HG2 := Lib.hid hg2
    clear hg2
    go_wp2_with fail
    go_ret
    exact ⟨rfl, grown_below (grown_trans HG1.out HG2.out)⟩
  | true =>
    have HFT := Lib.hid (HFF.out rfl)
    clear HFF
    go_wp2_with fail
    refine (HP.out w1 HG1.out HFT.out.1 HFT.out.2).mono ?_
    rintro r w2 ⟨d, rfl, D, N, S, T, rfl, hlv, hT, hbg⟩
    have h40 := HFT.out.1
    have HT := Lib.hid (show T.length ≤ 1000 by omega)
    have HB := Lib.hid (show endV s S + totB T ≤ 12000 by omega)
    have HE := Lib.hid (show endV s (seenV nb sz s S T) ≤ 1000000 from by have := seenV_end nb sz s hlv.disk.fj.hs T S; omega)
    have HC := Lib.hid (fun k t => crashV_end (nb := nb) (sz := sz) hlv.disk.fj.hs S T k t)
    have hq := Ships.one hlv
    obtain ⟨d, hd⟩ : ∃ d, D.d = d := ⟨_, rfl⟩
    rw [hd] at hq ⊢
    obtain ⟨R, hR⟩ : ∃ R, seenV nb sz s S T = R := ⟨_, rfl⟩
    rw [hR] at HE
    have HR := Lib.hid (fun _ : True => hR)
    have HQ := Lib.hid hq
    clear hq hd hlv hT hbg h40 HFT HP hR
    go_wp2_with fail
    refine (ships_copy (i := 0) HQ.out rfl HT.out).mono ?_
    rintro r w3 ⟨a, rfl, hq, _⟩
    have HQ1 := Lib.hid (show Ships w1 w3 nb sz N s most [(d, S, T), (a, S, T)] from hq)
    clear hq HQ
    go_wp2_with fail
    refine (ships_copy (i := 0) HQ1.out rfl HT.out).mono ?_
    rintro r w4 ⟨b, rfl, hq, _⟩
    have HQ2 := Lib.hid (show Ships w1 w4 nb sz N s most [(d, S, T), (a, S, T), (b, S, T)] from hq)
    clear hq HQ1
    go_wp2_with fail
    refine (ships_copy (i := 0) HQ2.out rfl HT.out).mono ?_
    rintro r w5 ⟨c, rfl, hq, _⟩
    have HQ3 := Lib.hid (show Ships w1 w5 nb sz N s most [(d, S, T), (a, S, T), (b, S, T), (c, S, T)] from hq)
    clear hq HQ2
    go_wp2_with fail
    refine (ships_sync (i := 1) HQ3.out rfl HT.out (Nat.le_trans HB.out (by omega))).mono ?_
    rintro r w6 ⟨rfl, hq⟩
    rw [HR.out trivial] at hq
    have HQ4 := Lib.hid (show Ships w1 w6 nb sz N s most [(d, S, T), (a, R, []), (b, S, T), (c, S, T)] from hq)
    clear hq HQ3
    go_wp2_with fail
    refine (ships_pending (i := 0) HQ4.out rfl).mono ?_
    rintro r w7 ⟨rfl, rfl⟩
    go_wp2_with fail
    refine (ships_crash (i := 2) HQ4.out rfl (T.length : Nat) tear HT.out (Nat.le_trans HB.out (by omega))).mono ?_
    rintro r w8 ⟨rfl, hq⟩
    rw [crashV_all, HR.out trivial] at hq
    have HQ5 := Lib.hid (show Ships w1 w8 nb sz N s most [(d, S, T), (a, R, []), (b, R, []), (c, S, T)] from hq)
    clear hq HQ4
    go_wp2_with fail
    refine (ships_twins (i := 1) (j := 2) HQ5.out rfl rfl rfl HE.out).mono ?_
    rintro r w9 ⟨rfl, hq⟩
    have HQ6 := Lib.hid hq
    clear hq HQ5
    go_wp2_with fail
    refine (ships_twins (i := 1) (j := 0) HQ6.out rfl rfl (HR.out trivial) HE.out).mono ?_
    rintro r w10 ⟨rfl, hq⟩
    have HQ7 := Lib.hid hq
    clear hq HQ6
    go_wp2_with fail
    refine (ships_crash (i := 1) HQ7.out rfl 0 0 (by simp) (Nat.le_trans HE.out (by omega))).mono ?_
    rintro r w11 ⟨rfl, hq⟩
    rw [crashV_none] at hq
    have HQ8 := Lib.hid (show Ships w1 w11 nb sz N s most [(d, S, T), (a, R, []), (b, R, []), (c, S, T)] from hq)
    clear hq HQ7
    go_wp2_with fail
    refine (ships_crash (i := 3) HQ8.out rfl keep tear HT.out (Nat.le_trans HB.out (by omega))).mono ?_
    rintro r w12 ⟨rfl, hq⟩
    obtain ⟨V, hV⟩ : ∃ V, crashV nb sz s S T keep tear = V := ⟨_, rfl⟩
    have HV := Lib.hid (show endV s V ≤ 12000 by rw [← hV]; exact Nat.le_trans (HC.out keep tear) HB.out)
    rw [hV] at hq
    have HQ9 := Lib.hid (show Ships w1 w12 nb sz N s most [(d, S, T), (a, R, []), (b, R, []), (c, V, [])] from hq)
    clear hq hV HQ8
    go_wp2_with fail
    refine (ships_copy (i := 3) HQ9.out rfl (by simp)).mono ?_
    rintro r w13 ⟨e, rfl, hq, _⟩
    have HQ10 := Lib.hid (show Ships w1 w13 nb sz N s most [(d, S, T), (a, R, []), (b, R, []), (c, V, []), (e, V, [])] from hq)
    clear hq HQ9
    go_wp2_with fail
    refine (ships_crash (i := 4) HQ10.out rfl keep tear (by simp) (Nat.le_trans HV.out (by omega))).mono ?_
    rintro r w14 ⟨rfl, hq⟩
    rw [crashV_none] at hq
    have HQ11 := Lib.hid (show Ships w1 w14 nb sz N s most [(d, S, T), (a, R, []), (b, R, []), (c, V, []), (e, V, [])] from hq)
    clear hq HQ10
    go_wp2_with fail
    refine (ships_twins (i := 1) (j := 2) HQ11.out rfl rfl rfl HE.out).mono ?_
    rintro r w15 ⟨rfl, hq⟩
    have HQ12 := Lib.hid hq
    clear hq HQ11
    go_wp2_with fail
    refine (ships_twins (i := 3) (j := 4) HQ12.out rfl rfl rfl (Nat.le_trans HV.out (by omega))).mono ?_
    rintro r w16 ⟨rfl, hq⟩
    have HQ13 := Lib.hid hq
    clear hq HQ12
    go_wp2_with fail
    refine (ships_pending (i := 3) HQ13.out rfl).mono ?_
    rintro r w17 ⟨rfl, rfl⟩
    go_wp2_with fail
    refine (disk_works _).mono ?_
    rintro r w18 ⟨rfl, hg⟩
    have HG := Lib.hid hg
    clear hg
    go_wp2_with fail
    go_ret
    exact ⟨rfl, grown_below (grown_trans HG1.out (grown_trans (HQ13.out.grown (i := 0) rfl) HG.out))⟩

end Go.Proofs.Ytkemocbifancfaa
