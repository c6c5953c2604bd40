/-
  Events: lists that are the same, few events, the example.
-/
import Derived.Test.YtomnhgcjdnhijaaScriptRDecW
import Derived.Test.YtomnhgcjdnhijaaScriptREnc
namespace Go.Proofs.Ytomnhgcjdnhijaa
open Go.RowKit
set_option maxRecDepth 100000

theorem sameE_self (k s p t : Int) (l : List UInt8) : sameE k s p t l k s p t l = true := by simp [sameE]
theorem keepA' {a b : World} {o : Obj} (h : a.grownBy b none) : a.grownBy (b.alloc o) none := growA _ _ h
theorem cell_later {w : World} {a : Addr} {v : Value} (h : w.cell? a = some v) : ∀ w', w.grownBy w' none → w'.cell? a = some v := fun _ hg => grown_cell hg h

def SameRel (w : World) (n : Nat) (i : Value) (wr : World) : Prop := ∃ k : Nat, k ≤ n ∧ i = .int .i64 k ∧ w.grownBy wr none
set_option maxHeartbeats 3200000 in
theorem ref_sameAll (a : Option Addr) (n c : Nat) (a' : Option Addr) (c' : Nat) (L : List EvP) (w : World) (hE : EvList w a L) (hE' : EvList w a' L) (hn : L.length = n) (hm : n ≤ maxLen) :
    Calls Try.prog 23 #[.slice a n c, .slice a' n c'] w fun r w' => r = .returned (.bool true) ∧ w.grownBy w' none := by
  have HE := Lib.hid hE; have HE' := Lib.hid hE'; have HN := Lib.hid hn
  have hmx : n ≤ 9223372036854775807 := hm
  clear hE hE' hn hm
  go_enter Try.func23, Try.ntmps23
  go_wp2_with fail
  go_loopw [5] (fun i wr => SameRel w n i wr) (fun i _ => n - (intOf i).toNat)
  case atStart => exact ⟨0, Nat.zero_le _, rfl, World.grownBy.refl _ _⟩
  case round =>
    obtain ⟨k, hk, rfl, hg⟩ := hrel
    have HG := Lib.hid hg
    clear hg
    by_cases hlt : k < n
    · obtain ⟨e, he⟩ : ∃ e, L[k]'(by rw [HN.out]; exact hlt) = e := ⟨_, rfl⟩
      have hat := HE.out k (by rw [HN.out]; exact hlt)
      have hat' := HE'.out k (by rw [HN.out]; exact hlt)
      rw [he] at hat hat'
      obtain ⟨b, o, q, m, d, rfl, h0, h1, h2, h3, h4, hb⟩ := hat
      obtain ⟨b', o', q', m', d', rfl, h0', h1', h2', h3', h4', hb'⟩ := hat'
      have d0 := cell_later (grown_cell HG.out h0)
      have d1 := cell_later (grown_cell HG.out h1)
      have d2 := cell_later (grown_cell HG.out h2)
      have d3 := cell_later (grown_cell HG.out h3)
      have d4 := cell_later (grown_cell HG.out h4)
      have f0 := cell_later (grown_cell HG.out h0')
      have f1 := cell_later (grown_cell HG.out h1')
      have f2 := cell_later (grown_cell HG.out h2')
      have f3 := cell_later (grown_cell HG.out h3')
      have f4 := cell_later (grown_cell HG.out h4')
      have HC := Lib.hid (fun u (hu : wr.grownBy u none) => ref_same e.k.toNat e.s e.p e.t q m d e.b e.k.toNat e.s e.p e.t q' m' d' e.b u ((hb.grown (grown_trans HG.out hu)).rb) hb.len ((hb'.grown (grown_trans HG.out hu)).rb) hb'.len)
      simp only [sameE_self] at HC
      have hS0 : wr.grownBy wr.drew none := grown_drew1 _
      have hS1 : wr.grownBy wr none := World.grownBy.refl _ _
      have i0 : (0 : Int) ≤ (k : Int) := by omega
      have i1 : (k : Int) < (n : Int) := by omega
      clear h0 h1 h2 h3 h4 hb h0' h1' h2' h3' h4' hb' he
      go_wp2_with fail
      go_region_held_law (fun w' => wr.grownBy w' none) (with_reducible (first | assumption | exact keepA' (by assumption))) (first
        | (go_at_call 29; (with_reducible refine (HC.out _ (by assumption)).mono ?_); rintro r w1 ⟨rfl, hg1⟩; have hSa := growT hg1 (by with_reducible assumption)))
      all_goals (
        have HSa := Lib.hid hSa
        clear d0 d1 d2 d3 d4 f0 f1 f2 f3 f4 hg1 hSa hS0 hS1
        go_wp2_with fail
        go_roundw
        case rel => exact ⟨k + 1, by omega, by go_num, grown_trans HG.out HSa.out⟩
        case measure => simp [intOf]; omega)
    · obtain rfl : k = n := by omega
      go_wp2_with fail
      go_ret
      exact ⟨rfl, HG.out⟩

def FewRel (w : World) (L : List EvP) (n : Nat) (i : Value) (wr : World) : Prop := ∃ k : Nat, k ≤ n ∧ i = .int .i64 k ∧ w.grownBy wr none ∧ ∀ j (h : j < L.length), j < k → L[j].b.length ≤ 600
set_option maxHeartbeats 1600000 in
theorem few_events (a : Option Addr) (n c : Nat) (L : List EvP) (w : World) (hE : EvList w a L) (hn : L.length = n) (hm : n ≤ maxLen) :
    Calls Try.prog 17 #[.slice a n c] w fun r w' => ∃ f, r = .returned (.bool f) ∧ w.grownBy w' none ∧ (f = true → n ≤ 1100 ∧ ∀ e ∈ L, e.b.length ≤ 600) := by
  have HE := Lib.hid hE; have HN := Lib.hid hn
  have hmx : n ≤ 9223372036854775807 := hm
  clear hE hn hm
  by_cases h11 : 1100 < n
  · have h11' : (1100 : Int) < (n : Int) := by omega
    go_enter Try.func17, Try.ntmps17
    go_wp2_with fail
    go_ret
    exact ⟨false, rfl, World.grownBy.refl _ _, fun h => by cases h⟩
  have h11' : (n : Int) ≤ 1100 := by omega
  go_enter Try.func17, Try.ntmps17
  go_wp2_with fail
  go_loopw [3] (fun i wr => FewRel w L n i wr) (fun i _ => n - (intOf i).toNat)
  case atStart => exact ⟨0, Nat.zero_le _, rfl, World.grownBy.refl _ _, fun j _ h => absurd h (by omega)⟩
  case round =>
    obtain ⟨k, hk, rfl, hg, hall⟩ := hrel
    have HG := Lib.hid hg; have HA := Lib.hid hall
    clear hg hall
    by_cases hlt : k < n
    · have hat := HE.out k (by rw [HN.out]; exact hlt)
      obtain ⟨e, he⟩ : ∃ e, L[k]'(by rw [HN.out]; exact hlt) = e := ⟨_, rfl⟩
      rw [he] at hat
      obtain ⟨b, o, q, m, d, rfl, h0, h1, h2, h3, h4, hb⟩ := hat
      have d4 := grown_cell HG.out h4
      have HL := Lib.hid hb.len; have HLK := Lib.hid he
      clear h0 h1 h2 h3 h4 hb he
      by_cases h6 : 600 < m
      · have h6' : (600 : Int) < (m : Int) := by omega
        go_wp2_with fail
        go_ret
        exact ⟨false, rfl, HG.out, fun h => by cases h⟩
      · have h6' : (m : Int) ≤ 600 := by omega
        go_wp2_with fail
        go_roundw
        case rel =>
          refine ⟨k + 1, by omega, by go_num, HG.out, fun j hj hjk => ?_⟩
          by_cases e' : j = k
          · subst e'
            rw [HLK.out, HL.out]
            omega
          · exact HA.out j hj (by omega)
        case measure => simp [intOf]; omega
    · obtain rfl : k = n := by omega
      go_wp2_with fail
      go_ret
      refine ⟨true, rfl, HG.out, fun _ => ⟨by omega, fun e he => ?_⟩⟩
      obtain ⟨j, hj, rfl⟩ := List.getElem_of_mem he
      exact HA.out j hj (by rw [← HN.out]; exact hj)

end Go.Proofs.Ytomnhgcjdnhijaa
