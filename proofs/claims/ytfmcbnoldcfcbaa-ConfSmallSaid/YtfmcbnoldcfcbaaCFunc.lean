/-
  What a configuration says, held against keys and bounds, by functions.
-/
import Derived.Test.YtfmcbnoldcfcbaaCRDecl
namespace Go.Proofs.Ytfmcbnoldcfcbaa
open Go.RowKit
set_option maxRecDepth 100000

def outB (d : DeclP) : Bool := decide (d.ini < d.lo) || decide (d.hi < d.ini)
theorem check_key (d : DeclP) (k : KeyP) (w : World) :
    Calls Try.prog 54 #[.agg #[.int .u8 (d.k.1.toNat : Int), .int .u8 (d.k.2.1.toNat : Int), .int .u8 (d.k.2.2.toNat : Int), .int .i64 d.lo, .int .i64 d.ini, .int .i64 d.hi], .agg #[.int .u8 (k.1.toNat : Int), .int .u8 (k.2.1.toNat : Int), .int .u8 (k.2.2.toNat : Int)]] w fun r w' => r = .returned (.bool (decide (d.k = k))) ∧ w.grownBy w' none := by
  have HG := Lib.hid (growA _ (.cells #[.int .u8 (k.1.toNat : Int), .int .u8 (k.2.1.toNat : Int), .int .u8 (k.2.2.toNat : Int)] 66) (World.grownBy_alloc w (.cells #[.int .u8 (d.k.1.toNat : Int), .int .u8 (d.k.2.1.toNat : Int), .int .u8 (d.k.2.2.toNat : Int), .int .i64 d.lo, .int .i64 d.ini, .int .i64 d.hi] 68) none))
  have XD := ((Box.new w 68 [.int .u8 (d.k.1.toNat : Int), .int .u8 (d.k.2.1.toNat : Int), .int .u8 (d.k.2.2.toNat : Int), .int .i64 d.lo, .int .i64 d.ini, .int .i64 d.hi] w.heap.size rfl).alloc (.cells #[.int .u8 (k.1.toNat : Int), .int .u8 (k.2.1.toNat : Int), .int .u8 (k.2.2.toNat : Int)] 66)).look
  have XK := (Box.new (w.alloc (.cells #[.int .u8 (d.k.1.toNat : Int), .int .u8 (d.k.2.1.toNat : Int), .int .u8 (d.k.2.2.toNat : Int), .int .i64 d.lo, .int .i64 d.ini, .int .i64 d.hi] 68)) 66 [.int .u8 (k.1.toNat : Int), .int .u8 (k.2.1.toNat : Int), .int .u8 (k.2.2.toNat : Int)] (w.heap.size + 1) (by simp)).look
  by_cases hk : d.k = k
  · subst hk
    go_enter Try.func54, Try.ntmps54
    go_wp2_with fail
    go_ret
    exact ⟨ret_bool (by simp), HG.out⟩
  · have HK := Lib.hid hk
    have hf := key_ne hk
    clear hk
    rcases hf with hf | ⟨hf, hf2⟩ | ⟨hf, hf2, hf3⟩
    all_goals (
      go_enter Try.func54, Try.ntmps54
      go_wp2_with fail
      go_ret
      exact ⟨ret_bool (decide_eq_false HK.out).symm, HG.out⟩)
theorem check_out (d : DeclP) (w : World) :
    Calls Try.prog 56 #[.agg #[.int .u8 (d.k.1.toNat : Int), .int .u8 (d.k.2.1.toNat : Int), .int .u8 (d.k.2.2.toNat : Int), .int .i64 d.lo, .int .i64 d.ini, .int .i64 d.hi]] w fun r w' => r = .returned (.bool (outB d)) ∧ w.grownBy w' none := by
  have HG := Lib.hid (World.grownBy_alloc w (.cells #[.int .u8 (d.k.1.toNat : Int), .int .u8 (d.k.2.1.toNat : Int), .int .u8 (d.k.2.2.toNat : Int), .int .i64 d.lo, .int .i64 d.ini, .int .i64 d.hi] 68) none)
  have XD := (Box.new w 68 [.int .u8 (d.k.1.toNat : Int), .int .u8 (d.k.2.1.toNat : Int), .int .u8 (d.k.2.2.toNat : Int), .int .i64 d.lo, .int .i64 d.ini, .int .i64 d.hi] w.heap.size rfl).look
  by_cases h : d.ini < d.lo
  · have HO := Lib.hid (show outB d = true by unfold outB; rw [decide_eq_true h]; rfl)
    go_enter Try.func56, Try.ntmps56
    go_wp2_with fail
    go_ret
    exact ⟨ret_bool HO.out.symm, HG.out⟩
  · by_cases h2 : d.hi < d.ini
    · have HO := Lib.hid (show outB d = true by unfold outB; rw [decide_eq_true h2, Bool.or_true])
      go_enter Try.func56, Try.ntmps56
      go_wp2_with fail
      go_ret
      exact ⟨ret_bool HO.out.symm, HG.out⟩
    · have HO := Lib.hid (show outB d = false by unfold outB; rw [decide_eq_false h, decide_eq_false h2]; rfl)
      go_enter Try.func56, Try.ntmps56
      go_wp2_with fail
      go_ret
      exact ⟨ret_bool HO.out.symm, HG.out⟩
def FirstOut (L : List DeclP) (z : Int) : Prop := (z = -1 ∧ ∀ d ∈ L, outB d = false) ∨ (0 ≤ z ∧ ∃ d ∈ L, outB d = true)
def OutRel (w : World) (L : List DeclP) (n : Nat) (i : Value) (wr : World) : Prop := ∃ j : Nat, j ≤ n ∧ i = .int .i64 j ∧ (∀ d ∈ L.take j, outB d = false) ∧ w.grownBy wr none
set_option maxHeartbeats 3200000 in
theorem decl_index (a : Option Addr) (n c : Nat) (L : List DeclP) (w : World) (hL : DeclList w a L) (hn : L.length = n) (hm : n ≤ maxLen) :
    Calls Try.prog 69 #[.slice a n c, .func (.func 56) #[] #[]] w fun r w' => ∃ z, r = .returned (.int .i64 z) ∧ FirstOut L z ∧ w.grownBy w' none := by
  have HL := Lib.hid hL; have HN := Lib.hid hn
  have hmx : n ≤ 9223372036854775807 := hm
  clear hL hn hm
  go_enter Try.func69, Try.ntmps69
  go_wp2_with fail
  go_loopw [8] (fun i wr => OutRel w L n i wr) (fun i _ => n - (intOf i).toNat)
  case atStart => exact ⟨0, Nat.zero_le _, rfl, by simp, World.grownBy.refl _ _⟩
  case round =>
    obtain ⟨j, hj, rfl, hno, hg⟩ := hrel
    have HG := Lib.hid hg; have HNO := Lib.hid hno
    clear hg hno
    by_cases hlt : j < n
    · have hjl : j < L.length := by rw [HN.out]; exact hlt
      obtain ⟨d, he⟩ : ∃ e, L[j]'hjl = e := ⟨_, rfl⟩
      obtain ⟨b, o, rfl, d0, d1, d2, d3, d4, d5⟩ := (HL.out j hjl).grown HG.out
      rw [he] at d0 d1 d2 d3 d4 d5
      have HE := Lib.hid he
      have i0 : (0 : Int) ≤ (j : Int) := by omega
      have i1 : (j : Int) < (n : Int) := by omega
      have hc := check_out d wr
      obtain ⟨t, ht⟩ : ∃ t, outB d = t := ⟨_, rfl⟩
      rw [ht] at hc
      have HC := Lib.hid hc; have HT := Lib.hid ht
      clear he hc ht
      cases t
      · go_wp2_with fail
        refine HC.out.mono ?_
        rintro r w2 ⟨rfl, hg2⟩
        have HG2 := Lib.hid (grown_trans HG.out hg2)
        clear hg2 d0 d1 d2 d3 d4 d5
        go_wp2_with fail
        go_roundw
        all_goals first
          | (exact ⟨j + 1, by omega, by go_num, take_snoc_all (p := fun d => outB d = false) hjl (by simp only [HE.out]; exact HT.out) HNO.out, HG2.out⟩)
          | (simp [intOf]; omega)
      · go_wp2_with fail
        refine HC.out.mono ?_
        rintro r w2 ⟨rfl, hg2⟩
        have HG2 := Lib.hid (grown_trans HG.out hg2)
        clear hg2 d0 d1 d2 d3 d4 d5
        go_wp2_with fail
        go_ret
        exact ⟨_, rfl, .inr ⟨by omega, d, by rw [← HE.out]; exact List.getElem_mem hjl, HT.out⟩, HG2.out⟩
    · obtain rfl : j = n := by omega
      go_wp2_with fail
      go_ret
      refine ⟨_, rfl, .inl ⟨rfl, ?_⟩, HG.out⟩
      have := HNO.out
      rwa [List.take_of_length_le (by rw [HN.out]; exact Nat.le_refl _)] at this
theorem decl_contains (a : Option Addr) (n c : Nat) (L : List DeclP) (w : World) (hL : DeclList w a L) (hn : L.length = n) (hm : n ≤ maxLen) :
    Calls Try.prog 55 #[.slice a n c, .func (.func 56) #[] #[]] w fun r w' => r = .returned (.bool (L.any outB)) ∧ w.grownBy w' none := by
  have HI := Lib.hid (decl_index a n c L w hL hn hm)
  clear hL hn hm
  go_enter Try.func55, Try.ntmps55
  go_wp2_with fail
  refine HI.out.mono ?_
  rintro r w2 ⟨z, rfl, hz, hg⟩
  have HG := Lib.hid hg
  clear hg
  rcases hz with ⟨rfl, hall⟩ | ⟨hz, d, hd, ho⟩
  · have HA := Lib.hid (show L.any outB = false by rw [List.any_eq_false]; intro x hx; rw [hall x hx]; simp)
    clear hall
    go_wp2_with fail
    go_ret
    exact ⟨ret_bool HA.out.symm, HG.out⟩
  · have HA := Lib.hid (show L.any outB = true from List.any_eq_true.2 ⟨d, hd, ho⟩)
    clear hd ho
    go_wp2_with fail
    go_ret
    exact ⟨ret_bool (by rw [HA.out]), HG.out⟩
def EqRel (w : World) (L : List DeclP) (M : List KeyP) (n : Nat) (i : Value) (wr : World) : Prop := ∃ j : Nat, j ≤ n ∧ i = .int .i64 j ∧ (L.map (·.k)).take j = M.take j ∧ w.grownBy wr none
set_option maxHeartbeats 6400000 in
theorem decl_equal (a : Option Addr) (n c : Nat) (L : List DeclP) (a' : Option Addr) (n' c' : Nat) (M : List KeyP) (w : World) (hL : DeclList w a L) (hn : L.length = n) (hM : KeyList w a' M) (hn' : M.length = n') (hm : n ≤ maxLen) :
    Calls Try.prog 52 #[.slice a n c, .slice a' n' c', .func (.func 54) #[] #[]] w fun r w' => r = .returned (.bool (decide (L.map (·.k) = M))) ∧ w.grownBy w' none := by
  have HL := Lib.hid hL; have HN := Lib.hid hn; have HM := Lib.hid hM; have HN' := Lib.hid hn'
  have hmx : n ≤ 9223372036854775807 := hm
  clear hL hn hm hM hn'
  by_cases hne : n = n'
  · subst hne
    go_enter Try.func52, Try.ntmps52
    go_wp2_with fail
    go_loopw [17] (fun i wr => EqRel w L M n i wr) (fun i _ => n - (intOf i).toNat)
    case atStart => exact ⟨0, Nat.zero_le _, rfl, rfl, World.grownBy.refl _ _⟩
    case round =>
      obtain ⟨j, hj, rfl, heq, hg⟩ := hrel
      have HG := Lib.hid hg; have HEQ := Lib.hid heq
      clear hg heq
      by_cases hlt : j < n
      · have hjl : j < L.length := by rw [HN.out]; exact hlt
        have hjm : j < M.length := by rw [HN'.out]; exact hlt
        obtain ⟨d, he⟩ : ∃ e, L[j]'hjl = e := ⟨_, rfl⟩
        obtain ⟨k, he'⟩ : ∃ e, M[j]'hjm = e := ⟨_, rfl⟩
        obtain ⟨b, o, rfl, d0, d1, d2, d3, d4, d5⟩ := (HL.out j hjl).grown HG.out
        have hg1 := World.grownBy_alloc wr (.cells #[.int .u8 (d.k.1.toNat : Int), .int .u8 (d.k.2.1.toNat : Int), .int .u8 (d.k.2.2.toNat : Int), .int .i64 d.lo, .int .i64 d.ini, .int .i64 d.hi] 68) none
        obtain ⟨b', o', rfl, f0, f1, f2⟩ := ((HM.out j hjm).grown HG.out).grown hg1
        rw [he] at d0 d1 d2 d3 d4 d5
        rw [he'] at f0 f1 f2
        have XD := ((Box.new wr 68 [.int .u8 (d.k.1.toNat : Int), .int .u8 (d.k.2.1.toNat : Int), .int .u8 (d.k.2.2.toNat : Int), .int .i64 d.lo, .int .i64 d.ini, .int .i64 d.hi] wr.heap.size rfl).alloc (.cells #[.int .u8 (k.1.toNat : Int), .int .u8 (k.2.1.toNat : Int), .int .u8 (k.2.2.toNat : Int)] 66)).look
        have XK := (Box.new (wr.alloc (.cells #[.int .u8 (d.k.1.toNat : Int), .int .u8 (d.k.2.1.toNat : Int), .int .u8 (d.k.2.2.toNat : Int), .int .i64 d.lo, .int .i64 d.ini, .int .i64 d.hi] 68)) 66 [.int .u8 (k.1.toNat : Int), .int .u8 (k.2.1.toNat : Int), .int .u8 (k.2.2.toNat : Int)] (wr.heap.size + 1) (by simp)).look
        have HGA := Lib.hid (grown_trans HG.out (growA _ (.cells #[.int .u8 (k.1.toNat : Int), .int .u8 (k.2.1.toNat : Int), .int .u8 (k.2.2.toNat : Int)] 66) hg1))
        have HE := Lib.hid he; have HE' := Lib.hid he'
        have i0 : (0 : Int) ≤ (j : Int) := by omega
        have i1 : (j : Int) < (n : Int) := by omega
        have hc := fun u => check_key d k u
        obtain ⟨t, ht⟩ : ∃ t, decide (d.k = k) = t := ⟨_, rfl⟩
        rw [ht] at hc
        have HC := Lib.hid hc; have HT := Lib.hid ht
        clear he he' hc ht hg1
        cases t
        · go_wp2_with fail
          refine (HC.out _).mono ?_
          rintro r w2 ⟨rfl, hg2⟩
          have HG2 := Lib.hid (grown_trans HGA.out hg2)
          clear hg2 d0 d1 d2 d3 d4 d5 f0 f1 f2 XD XK
          go_wp2_with fail
          go_ret
          refine ⟨ret_bool ?_, HG2.out⟩
          symm
          rw [decide_eq_false_iff_not]
          intro h
          have h1 := of_decide_eq_false HT.out
          apply h1
          rw [← HE.out, ← HE'.out]
          subst h
          simp
        · go_wp2_with fail
          refine (HC.out _).mono ?_
          rintro r w2 ⟨rfl, hg2⟩
          have HG2 := Lib.hid (grown_trans HGA.out hg2)
          clear hg2 d0 d1 d2 d3 d4 d5 f0 f1 f2 XD XK
          go_wp2_with fail
          go_roundw
          all_goals first
            | (refine ⟨j + 1, by omega, by go_num, ?_, HG2.out⟩
               rw [List.take_succ_eq_append_getElem (by simpa using hjl), List.take_succ_eq_append_getElem hjm, HEQ.out, List.getElem_map, HE.out, HE'.out, of_decide_eq_true HT.out])
            | (simp [intOf]; omega)
      · obtain rfl : j = n := by omega
        go_wp2_with fail
        go_ret
        refine ⟨ret_bool ?_, HG.out⟩
        symm
        rw [decide_eq_true_eq]
        have := HEQ.out
        rwa [List.take_of_length_le (by rw [List.length_map, HN.out]; exact Nat.le_refl _), List.take_of_length_le (by rw [HN'.out]; exact Nat.le_refl _)] at this
  · have hne1 : ((n : Int) != (n' : Int)) = true := by simp; omega
    have HNE := Lib.hid hne
    clear hne
    go_enter Try.func52, Try.ntmps52
    go_wp2_with fail
    go_ret
    refine ⟨ret_bool ?_, World.grownBy.refl _ _⟩
    symm
    rw [decide_eq_false_iff_not]
    intro h
    apply HNE.out
    rw [← HN.out, ← HN'.out, ← h, List.length_map]

end Go.Proofs.Ytfmcbnoldcfcbaa
