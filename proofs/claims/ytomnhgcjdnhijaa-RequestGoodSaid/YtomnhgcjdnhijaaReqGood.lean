/-
  Whether a request may be asked.
-/
import Derived.Test.YtomnhgcjdnhijaaReqBack
namespace Go.Proofs.Ytomnhgcjdnhijaa
open Go.RowKit
set_option maxRecDepth 100000

def okAt (sk : Int) (L : List LineP) (i : Nat) : Bool := decide (((L.getD i (0, 0)).1.toNat : Int) < sk) && decide (1 ≤ (L.getD i (0, 0)).2) && (i == 0 || decide ((L.getD (i - 1) (0, 0)).1.toNat < (L.getD i (0, 0)).1.toNat))
def linesOk (sk : Int) (L : List LineP) : Bool := (List.range L.length).all (okAt sk L)
theorem linesOk_false {sk : Int} {L : List LineP} {i : Nat} (hi : i < L.length) (h : okAt sk L i = false) : linesOk sk L = false := by
  unfold linesOk
  rw [List.all_eq_false]
  exact ⟨i, List.mem_range.2 hi, by rw [h]; simp⟩
theorem linesOk_true {sk : Int} {L : List LineP} (h : ∀ i, i < L.length → okAt sk L i = true) : linesOk sk L = true := by
  unfold linesOk
  rw [List.all_eq_true]
  exact fun i hi => h i (List.mem_range.1 hi)
theorem getD_at {L : List LineP} {i : Nat} (hi : i < L.length) : L.getD i (0, 0) = L[i] := by
  rw [List.getD_eq_getElem?_getD, List.getElem?_eq_getElem hi]
  rfl
def OkRel (w : World) (sk : Int) (L : List LineP) (n : Nat) (i : Value) (wr : World) : Prop := ∃ k : Nat, k ≤ n ∧ i = .int .i64 (k : Int) ∧ (∀ j, j < k → okAt sk L j = true) ∧ w.grownBy wr none
theorem ok_parts (sk : Int) (L : List LineP) (i : Nat) : okAt sk L i = true ↔ ((L.getD i (0, 0)).1.toNat : Int) < sk ∧ 1 ≤ (L.getD i (0, 0)).2 ∧ (i = 0 ∨ (L.getD (i - 1) (0, 0)).1.toNat < (L.getD i (0, 0)).1.toNat) := by
  unfold okAt
  simp [and_assoc]
set_option maxHeartbeats 3200000 in
theorem ref_lines (sk : Int) (a : Option Addr) (n c : Nat) (L : List LineP) (w : World) (hL : LineList w a L) (hn : L.length = n) (hm : n ≤ maxLen) :
    Calls Try.prog 62 #[.int .i64 sk, .slice a n c] w fun r w' => r = .returned (.bool (linesOk sk L && decide (n ≤ 3))) ∧ w.grownBy w' none := by
  have HL := Lib.hid hL; have HN := Lib.hid (fun _ : True => hn)
  have hmx : n ≤ 9223372036854775807 := hm
  clear hL hn hm
  obtain ⟨R, hR⟩ : ∃ R, linesOk sk L = R := ⟨_, rfl⟩
  rw [hR]
  have HR := Lib.hid (fun _ : True => hR)
  clear hR
  go_enter Try.func62, Try.ntmps62
  go_wp2_with fail
  go_loopw [5] (fun i wr => OkRel w sk L n i wr) (fun i _ => n - (intOf i).toNat)
  case atStart => exact ⟨0, Nat.zero_le _, rfl, fun _ h => absurd h (by omega), World.grownBy.refl _ _⟩
  case round =>
    obtain ⟨k, hk, rfl, hall, hg⟩ := hrel
    have HG := Lib.hid hg; have HALL := Lib.hid hall
    clear hg hall
    by_cases hlt : k < n
    · have hkl : k < L.length := by rw [HN.out trivial]; exact hlt
      obtain ⟨b, o, rfl, h0, h1⟩ := HL.out k hkl
      obtain ⟨x, hx⟩ : ∃ x, (L[k]).1.toNat = x := ⟨_, rfl⟩
      obtain ⟨q, hq⟩ : ∃ q, (L[k]).2 = q := ⟨_, rfl⟩
      rw [hx] at h0
      rw [hq] at h1
      have d0 := grown_cell HG.out h0
      have d1 := grown_cell HG.out h1
      have hxb : x < 256 := by rw [← hx]; exact UInt8.toNat_lt _
      have q1 : IntKind.i64.wrap (x : Int) = (x : Int) := by rw [IntKind.wrap_i64]; omega
      have hprev : ∃ y : Nat, (L.getD (k - 1) (0, 0)).1.toNat = y ∧ (0 < k → wr.cell? ⟨b, o + (k - 1) * 2, none⟩ = some (.int .u8 (y : Int))) := ⟨_, rfl, fun h => by
        obtain ⟨b', o', e, h0', _⟩ := HL.out (k - 1) (by omega)
        cases e
        rw [getD_at (by omega)]
        exact grown_cell HG.out h0'⟩
      obtain ⟨y, hy, hyc⟩ := hprev
      have HOK := Lib.hid (fun _ : True => show okAt sk L k = true ↔ (x : Int) < sk ∧ 1 ≤ q ∧ (k = 0 ∨ y < x) by rw [ok_parts, getD_at hkl, hx, hq, hy])
      have HKL := Lib.hid hkl
      have i0 : (0 : Int) ≤ (k : Int) := by omega
      have i1 : (k : Int) < (n : Int) := by omega
      clear h0 h1 hx hq hy hkl
      by_cases t1 : (x : Int) ≥ sk
      · skip
        go_wp2_with fail
        go_quiet (fail)
        generalize hwq : wr.drewN _ = wq
        have HGQ := Lib.hid (show w.grownBy wq none by rw [← hwq]; exact grown_trans HG.out (grown_drewN _ _))
        clear hwq d0 d1 hyc
        go_wp2_with fail
        go_ret
        refine ⟨?_, HGQ.out⟩
        rw [← HR.out trivial, linesOk_false HKL.out (by rw [Bool.eq_false_iff]; intro h; have h2 := (HOK.out trivial).1 h; omega)]
        rfl
      · have D1 : decide ((x : Int) ≥ sk) = false := decide_eq_false t1
        by_cases t2 : q < 1
        · skip
          go_wp2_with fail
          go_quiet (fail)
          generalize hwq : wr.drewN _ = wq
          have HGQ := Lib.hid (show w.grownBy wq none by rw [← hwq]; exact grown_trans HG.out (grown_drewN _ _))
          clear hwq d0 d1 hyc
          go_wp2_with fail
          go_ret
          refine ⟨?_, HGQ.out⟩
          rw [← HR.out trivial, linesOk_false HKL.out (by rw [Bool.eq_false_iff]; intro h; have h2 := (HOK.out trivial).1 h; omega)]
          rfl
        · have D2 : decide (q < 1) = false := decide_eq_false t2
          by_cases t3 : 0 < k
          · have yc := hyc t3
            have t4 : (k : Int) > 0 := by omega
            have q2 : (k : Int) - 1 = ((k - 1 : Nat) : Int) := by omega
            have q3 : IntKind.i64.wrap ((k : Int) - 1) = ((k - 1 : Nat) : Int) := by rw [q2, IntKind.wrap_i64]; omega
            have q4 : IntKind.i64.wrap ((k - 1 : Nat) : Int) = ((k - 1 : Nat) : Int) := by rw [IntKind.wrap_i64]; omega
            have i2 : (0 : Int) ≤ ((k - 1 : Nat) : Int) := by omega
            have i3 : ((k - 1 : Nat) : Int) < (n : Int) := by omega
            obtain ⟨z, hz⟩ : ∃ z, k - 1 = z := ⟨_, rfl⟩
            rw [hz] at yc q2 q3 q4 i2 i3
            clear hz
            by_cases t5 : (y : Int) ≥ (x : Int)
            · skip
              go_wp2_with fail
              go_quiet (fail)
              generalize hwq : wr.drewN _ = wq
              have HGQ := Lib.hid (show w.grownBy wq none by rw [← hwq]; exact grown_trans HG.out (grown_drewN _ _))
              clear hwq d0 d1 hyc
              go_wp2_with fail
              go_ret
              refine ⟨?_, HGQ.out⟩
              rw [← HR.out trivial, linesOk_false HKL.out (by rw [Bool.eq_false_iff]; intro h; have h2 := (HOK.out trivial).1 h; omega)]
              rfl
            · have D5 : decide ((y : Int) ≥ (x : Int)) = false := decide_eq_false t5
              go_wp2_with fail
              go_quiet (fail)
              generalize hwq : wr.drewN _ = wq
              have HGQ := Lib.hid (show w.grownBy wq none by rw [← hwq]; exact grown_trans HG.out (grown_drewN _ _))
              clear hwq d0 d1 hyc
              go_wp2_with fail
              exact ⟨⟨k + 1, by omega, by go_num, fun j hj => by
                by_cases e : j = k
                · subst e; exact (HOK.out trivial).2 (by omega)
                · exact HALL.out j (by omega), HGQ.out⟩, by simp only [intOf]; omega⟩
          · have D4 : decide ((k : Int) > 0) = false := decide_eq_false (by omega)
            go_wp2_with fail
            go_quiet (fail)
            generalize hwq : wr.drewN _ = wq
            have HGQ := Lib.hid (show w.grownBy wq none by rw [← hwq]; exact grown_trans HG.out (grown_drewN _ _))
            clear hwq d0 d1 hyc
            go_wp2_with fail
            exact ⟨⟨k + 1, by omega, by go_num, fun j hj => by
              by_cases e : j = k
              · subst e; exact (HOK.out trivial).2 (by omega)
              · exact HALL.out j (by omega), HGQ.out⟩, by simp only [intOf]; omega⟩
    · obtain rfl : k = n := by omega
      have hR := linesOk_true (sk := sk) (L := L) (fun j hj => HALL.out j (by rw [HN.out trivial] at hj; exact hj))
      go_wp2_with fail
      go_ret
      refine ⟨ret_bool ?_, HG.out⟩
      rw [← HR.out trivial, hR]
      first | (simp; done) | (simp; omega)
set_option maxHeartbeats 3200000 in
theorem req_lines (sk : Int) (a : Option Addr) (n c : Nat) (L : List LineP) (w : World) (hL : LineList w a L) (hn : L.length = n) (hm : n ≤ maxLen) :
    Calls Try.prog 61 #[.int .i64 sk, .slice a n c] w fun r w' => r = .returned (.bool (linesOk sk L && decide (0 < n))) ∧ w.grownBy w' none := by
  have HL := Lib.hid hL; have HN := Lib.hid (fun _ : True => hn)
  have hmx : n ≤ 9223372036854775807 := hm
  clear hL hn hm
  obtain ⟨R, hR⟩ : ∃ R, linesOk sk L = R := ⟨_, rfl⟩
  rw [hR]
  have HR := Lib.hid (fun _ : True => hR)
  clear hR
  go_enter Try.func61, Try.ntmps61
  go_wp2_with fail
  go_loopw [9] (fun i wr => OkRel w sk L n i wr) (fun i _ => n - (intOf i).toNat)
  case atStart => exact ⟨0, Nat.zero_le _, rfl, fun _ h => absurd h (by omega), World.grownBy.refl _ _⟩
  case round =>
    obtain ⟨k, hk, rfl, hall, hg⟩ := hrel
    have HG := Lib.hid hg; have HALL := Lib.hid hall
    clear hg hall
    by_cases hlt : k < n
    · have hkl : k < L.length := by rw [HN.out trivial]; exact hlt
      obtain ⟨b, o, rfl, h0, h1⟩ := HL.out k hkl
      obtain ⟨x, hx⟩ : ∃ x, (L[k]).1.toNat = x := ⟨_, rfl⟩
      obtain ⟨q, hq⟩ : ∃ q, (L[k]).2 = q := ⟨_, rfl⟩
      rw [hx] at h0
      rw [hq] at h1
      have d0 := grown_cell HG.out h0
      have d1 := grown_cell HG.out h1
      have hxb : x < 256 := by rw [← hx]; exact UInt8.toNat_lt _
      have q1 : IntKind.i64.wrap (x : Int) = (x : Int) := by rw [IntKind.wrap_i64]; omega
      have hprev : ∃ y : Nat, (L.getD (k - 1) (0, 0)).1.toNat = y ∧ (0 < k → wr.cell? ⟨b, o + (k - 1) * 2, none⟩ = some (.int .u8 (y : Int))) := ⟨_, rfl, fun h => by
        obtain ⟨b', o', e, h0', _⟩ := HL.out (k - 1) (by omega)
        cases e
        rw [getD_at (by omega)]
        exact grown_cell HG.out h0'⟩
      obtain ⟨y, hy, hyc⟩ := hprev
      have HOK := Lib.hid (fun _ : True => show okAt sk L k = true ↔ (x : Int) < sk ∧ 1 ≤ q ∧ (k = 0 ∨ y < x) by rw [ok_parts, getD_at hkl, hx, hq, hy])
      have HKL := Lib.hid hkl
      have i0 : (0 : Int) ≤ (k : Int) := by omega
      have i1 : (k : Int) < (n : Int) := by omega
      clear h0 h1 hx hq hy hkl
      have hb := Box.new wr 73 [.int .u8 (x : Int), .int .i64 q] wr.heap.size rfl
      have hga := World.grownBy_alloc wr (.cells #[.int .u8 (x : Int), .int .i64 q] 73) none
      have HGA := Lib.hid (grown_trans HG.out hga)
      by_cases t1 : (x : Int) ≥ sk
      · skip
        go_wp2_with fail
        go_quiet (fail)
        generalize hwq : (wr.alloc (.cells #[.int .u8 (x : Int), .int .i64 q] 73)).drewN _ = wq
        have HGQ := Lib.hid (show w.grownBy wq none by rw [← hwq]; exact grown_trans HGA.out (grown_drewN _ _))
        clear hwq d0 d1 hyc hb hga
        go_wp2_with fail
        go_ret
        refine ⟨?_, HGQ.out⟩
        rw [← HR.out trivial, linesOk_false HKL.out (by rw [Bool.eq_false_iff]; intro h; have h2 := (HOK.out trivial).1 h; omega)]
        rfl
      · have D1 : decide ((x : Int) ≥ sk) = false := decide_eq_false t1
        by_cases t2 : q < 1
        · skip
          go_wp2_with fail
          go_quiet (fail)
          generalize hwq : (wr.alloc (.cells #[.int .u8 (x : Int), .int .i64 q] 73)).drewN _ = wq
          have HGQ := Lib.hid (show w.grownBy wq none by rw [← hwq]; exact grown_trans HGA.out (grown_drewN _ _))
          clear hwq d0 d1 hyc hb hga
          go_wp2_with fail
          go_ret
          refine ⟨?_, HGQ.out⟩
          rw [← HR.out trivial, linesOk_false HKL.out (by rw [Bool.eq_false_iff]; intro h; have h2 := (HOK.out trivial).1 h; omega)]
          rfl
        · have D2 : decide (q < 1) = false := decide_eq_false t2
          by_cases t3 : 0 < k
          · have yc := hyc t3
            have t4 : (k : Int) > 0 := by omega
            have q2 : (k : Int) - 1 = ((k - 1 : Nat) : Int) := by omega
            have q3 : IntKind.i64.wrap ((k : Int) - 1) = ((k - 1 : Nat) : Int) := by rw [q2, IntKind.wrap_i64]; omega
            have q4 : IntKind.i64.wrap ((k - 1 : Nat) : Int) = ((k - 1 : Nat) : Int) := by rw [IntKind.wrap_i64]; omega
            have i2 : (0 : Int) ≤ ((k - 1 : Nat) : Int) := by omega
            have i3 : ((k - 1 : Nat) : Int) < (n : Int) := by omega
            obtain ⟨z, hz⟩ : ∃ z, k - 1 = z := ⟨_, rfl⟩
            rw [hz] at yc q2 q3 q4 i2 i3
            clear hz
            have yc := grown_cell hga yc
            by_cases t5 : (y : Int) ≥ (x : Int)
            · skip
              go_wp2_with fail
              go_quiet (fail)
              generalize hwq : (wr.alloc (.cells #[.int .u8 (x : Int), .int .i64 q] 73)).drewN _ = wq
              have HGQ := Lib.hid (show w.grownBy wq none by rw [← hwq]; exact grown_trans HGA.out (grown_drewN _ _))
              clear hwq d0 d1 hyc hb hga
              go_wp2_with fail
              go_ret
              refine ⟨?_, HGQ.out⟩
              rw [← HR.out trivial, linesOk_false HKL.out (by rw [Bool.eq_false_iff]; intro h; have h2 := (HOK.out trivial).1 h; omega)]
              rfl
            · have D5 : decide ((y : Int) ≥ (x : Int)) = false := decide_eq_false t5
              go_wp2_with fail
              go_quiet (fail)
              generalize hwq : (wr.alloc (.cells #[.int .u8 (x : Int), .int .i64 q] 73)).drewN _ = wq
              have HGQ := Lib.hid (show w.grownBy wq none by rw [← hwq]; exact grown_trans HGA.out (grown_drewN _ _))
              clear hwq d0 d1 hyc hb hga
              go_wp2_with fail
              exact ⟨⟨k + 1, by omega, by go_num, fun j hj => by
                by_cases e : j = k
                · subst e; exact (HOK.out trivial).2 (by omega)
                · exact HALL.out j (by omega), HGQ.out⟩, by simp only [intOf]; omega⟩
          · have D4 : decide ((k : Int) > 0) = false := decide_eq_false (by omega)
            go_wp2_with fail
            go_quiet (fail)
            generalize hwq : (wr.alloc (.cells #[.int .u8 (x : Int), .int .i64 q] 73)).drewN _ = wq
            have HGQ := Lib.hid (show w.grownBy wq none by rw [← hwq]; exact grown_trans HGA.out (grown_drewN _ _))
            clear hwq d0 d1 hyc hb hga
            go_wp2_with fail
            exact ⟨⟨k + 1, by omega, by go_num, fun j hj => by
              by_cases e : j = k
              · subst e; exact (HOK.out trivial).2 (by omega)
              · exact HALL.out j (by omega), HGQ.out⟩, by simp only [intOf]; omega⟩
    · obtain rfl : k = n := by omega
      have hR := linesOk_true (sk := sk) (L := L) (fun j hj => HALL.out j (by rw [HN.out trivial] at hj; exact hj))
      go_wp2_with fail
      go_ret
      refine ⟨ret_bool ?_, HG.out⟩
      rw [← HR.out trivial, hR]
      first | (simp; done) | (simp; omega)
def goodG (sk wa k o p : Int) (n : Nat) (pb lb : Bool) (s f t q : Int) : Bool :=
  pb && (if k ≤ 4 then o != 0 && (k != 1 || (decide (p ≤ 1) && lb && decide (0 < n)))
    else decide (s < sk) && (!movedF k || (decide (t < wa) && decide (1 ≤ q))) && (k != 6 || (decide (f < wa) && f != t)))

end Go.Proofs.Ytomnhgcjdnhijaa
