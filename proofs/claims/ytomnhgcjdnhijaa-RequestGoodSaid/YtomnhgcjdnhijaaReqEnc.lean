/-
  Requests are encoded.
-/
import Derived.Test.YtomnhgcjdnhijaaReqMem
import Derived.Deep.DeepCutAuto
namespace Go.Proofs.Ytomnhgcjdnhijaa
open Go.RowKit
set_option maxRecDepth 100000

/-- a number with a sign as a number of eight bytes -/
def u64n (z : Int) : Nat := (IntKind.u64.wrap z).toNat
theorem u64n_eq (z : Int) : IntKind.u64.wrap z = (u64n z : Int) := by
  unfold u64n
  have : 0 ≤ IntKind.u64.wrap z := by simp [IntKind.wrap, IntKind.signed, IntKind.bits]; omega
  omega
theorem u64n_lt (z : Int) : u64n z < 2 ^ (8 * 8) := by
  unfold u64n
  have : IntKind.u64.wrap z < 18446744073709551616 := by simp [IntKind.wrap, IntKind.signed, IntKind.bits]; omega
  omega
theorem u64n_back (z : Int) (h : i64ok z) : wrap64 (u64n z : Int) = z := by
  rw [← u64n_eq]
  unfold i64ok at h
  simp [IntKind.wrap, IntKind.signed, IntKind.bits, wrap64]
  omega
def lineB (x : LineP) : List UInt8 := x.1 :: numB (u64n x.2) 8
theorem lineB_length (x : LineP) : (lineB x).length = 9 := by simp [lineB, numB_length]
def linesB (L : List LineP) : List UInt8 := (L.map lineB).flatten
theorem linesB_length (L : List LineP) : (linesB L).length = L.length * 9 := by
  unfold linesB
  induction L with
  | nil => rfl
  | cons x L ih => rw [List.map_cons, List.flatten_cons, List.length_append, ih, lineB_length, List.length_cons, Nat.add_mul]; omega
theorem linesB_snoc (L : List LineP) (i : Nat) (h : i < L.length) : linesB (L.take (i + 1)) = linesB (L.take i) ++ lineB L[i] := by
  unfold linesB
  rw [List.take_succ_eq_append_getElem h, List.map_append, List.flatten_append, show (List.map lineB [L[i]]).flatten = lineB L[i] by simp]
/-- a request's bytes -/
def reqB (r : ReqP) : List UInt8 :=
  if r.k = 1 then [r.k] ++ numB r.o 4 ++ [r.p, UInt8.ofNat r.L.length] ++ linesB r.L
  else if r.k.toNat ≤ 4 then [r.k] ++ numB r.o 4
  else if r.k = 5 then [r.k] ++ [r.s] ++ [r.t] ++ numB (u64n r.q) 8
  else if r.k = 6 then [r.k] ++ [r.s] ++ [r.f] ++ [r.t] ++ numB (u64n r.q) 8
  else [r.k] ++ [r.s]
def encR (r : ReqP) : List UInt8 × Int := if r.plain then (reqB r, 0) else ([], 1)
def EncQPost (w : World) (t : List UInt8 × Int) (r : Ending) (w' : World) : Prop :=
  ∃ a n c, r = .returned (.tuple #[.slice a n c, .int .i64 t.2]) ∧ t.1.length = n ∧ RB w' a t.1 ∧ w.grownBy w' none
theorem k_eq (k : UInt8) (n : Nat) (hn : n < 256) : ((k.toNat : Int) == (n : Int)) = decide (k = UInt8.ofNat n) := by
  rw [Bool.eq_iff_iff, beq_iff_eq, decide_eq_true_eq]
  constructor
  · intro h
    have : k.toNat = n := by omega
    rw [← this]; simp
  · intro h; rw [h]; simp; omega
theorem plain_facts {r : ReqP} (h : r.plain = true) : 1 ≤ r.k.toNat ∧ r.k.toNat ≤ 7 ∧ r.L.length ≤ 3 := by
  unfold ReqP.plain plainF at h
  simp only [Bool.and_eq_true, decide_eq_true_eq] at h
  omega

def EncLn (wb : World) (g : Nat) (P : List UInt8) (L : List LineP) (n : Nat) (i : Value) (wr : World) : Prop :=
  ∃ k : Nat, k ≤ n ∧ i = .int .i64 k ∧ Wr wb wr g (0, P ++ linesB (L.take k)) 512

set_option maxHeartbeats 3200000 in
theorem req_encode (r : ReqP) (a : Option Addr) (n c : Nat) (w : World) (hb : ReqB w r a n c) (ok : r.ok) :
    Calls Try.prog 11 #[.agg #[.int .u8 (r.k.toNat : Int), .int .u32 (r.o : Int), .int .u8 (r.p.toNat : Int), .slice a n c, .int .u8 (r.s.toNat : Int), .int .u8 (r.f.toNat : Int), .int .u8 (r.t.toNat : Int), .int .i64 r.q]] w (EncQPost w (encR r)) := by
  have HP := Lib.hid (fun u => req_plain r.k.toNat r.o r.p.toNat a n c r.s.toNat r.f.toNat r.t.toNat r.q u)
  obtain ⟨pl, hpl⟩ : ∃ b, r.plain = b := ⟨_, rfl⟩
  rw [show plainF r.k.toNat r.o r.p.toNat n r.s.toNat r.f.toNat r.t.toNat r.q = pl from by rw [← hpl, ← hb.len]; rfl] at HP
  have HGA := Lib.hid (World.grownBy_alloc w (.cells #[.int .u8 (r.k.toNat : Int), .int .u32 (r.o : Int), .int .u8 (r.p.toNat : Int), .slice a n c, .int .u8 (r.s.toNat : Int), .int .u8 (r.f.toNat : Int), .int .u8 (r.t.toNat : Int), .int .i64 r.q] 25) none)
  have HBX := Lib.hid (Box.new w 25 [.int .u8 (r.k.toNat : Int), .int .u32 (r.o : Int), .int .u8 (r.p.toNat : Int), .slice a n c, .int .u8 (r.s.toNat : Int), .int .u8 (r.f.toNat : Int), .int .u8 (r.t.toNat : Int), .int .i64 r.q] w.heap.size rfl)
  have HB := Lib.hid hb; have HOK := Lib.hid ok
  cases pl
  · have HX := Lib.hid (show encR r = ([], 1) by unfold encR; rw [if_neg (by rw [hpl]; decide)])
    clear hpl hb ok
    go_enter Try.func11, Try.ntmps11
    go_wp2_with fail
    refine (HP.out _).mono ?_
    rintro e w1 ⟨rfl, hg⟩
    have HG1 := Lib.hid (grown_trans HGA.out hg)
    clear hg
    go_wp2_with fail
    go_ret2
    rw [HX.out]
    exact ⟨none, 0, 0, rfl, rfl, RB.nil _ _, HG1.out⟩
  · obtain ⟨hk1, hk7, hL3⟩ := plain_facts hpl
    have HX := Lib.hid (show encR r = (reqB r, 0) by unfold encR; rw [if_pos hpl])
    have HLN := Lib.hid hb.len
    have hn3 : n ≤ 3 := by rw [← hb.len]; exact hL3
    clear hpl hb ok hL3
    obtain ⟨rk, ro, rp, rL, rs, rf, rt, rq⟩ := r
    simp only at hk1 hk7 HLN HBX HGA HP
    have hol := HOK.out.o
    simp only at hol
    have q1 : ((rk.toNat : Int) == 1) = decide (rk = 1) := k_eq rk 1 (by decide)
    have q6 : ((rk.toNat : Int) == 6) = decide (rk = 6) := k_eq rk 6 (by decide)
    have q5 : ((rk.toNat : Int) == 5) = decide (rk = 5) := k_eq rk 5 (by decide)
    have HO := Lib.hid (fun u => req_ordered (rk.toNat : Int) u)
    have HM := Lib.hid (fun u => req_moved (rk.toNat : Int) u)
    rw [show movedF (rk.toNat : Int) = (decide (rk = 5) || decide (rk = 6)) by unfold movedF; rw [q5, q6]] at HM
    clear q5
    go_enter Try.func11, Try.ntmps11
    go_wp2_with fail
    refine (HP.out _).mono ?_
    rintro e wb ⟨rfl, hg⟩
    have HGB := Lib.hid (grown_trans HGA.out hg)
    have LK := fun u (h : wb.grownBy u none) => look_new w 25 _ u (grown_trans hg h)
    clear hg
    have hgb := World.grownBy.refl wb none
    go_wp2_with fail
    refine (Wr.new _ 512 (by decide) (by decide) _).mono ?_
    rintro e w1 ⟨rfl, hW⟩
    have HW1 := Lib.hid hW
    clear hW hgb
    have hg1 := HW1.out.gr
    go_wp2_with fail
    refine ((HW1.out.grown (World.grownBy_alloc _ _ none)).raw _ 1 1 [rk] rfl (RB.one _ _ (by simp) rk _ _)).mono ?_
    rintro e w2 ⟨rfl, hW, _⟩
    rw [rawW_fit (by simp), List.nil_append] at hW
    have HW2 := Lib.hid hW
    clear hW hg1
    have hg2 := HW2.out.gr
    go_wp2_with fail
    refine (HO.out _).mono ?_
    rintro e w2' ⟨rfl, rfl⟩
    by_cases e1 : rk = 1
    · have HRB := Lib.hid (show reqB ⟨rk, ro, rp, rL, rs, rf, rt, rq⟩ = [rk] ++ numB ro 4 ++ [rp, UInt8.ofNat rL.length] ++ linesB rL by unfold reqB; rw [if_pos e1])
      rw [decide_eq_true e1] at q1
      rw [show decide (rk = 6) = false by rw [e1]; decide] at q6
      rw [show (decide (rk = 5) || decide (rk = 6)) = false by rw [e1]; decide] at HM
      have hk4 : rk.toNat ≤ 4 := by rw [e1]; decide
      clear e1
      have ho : orderedF (rk.toNat : Int) = true := by unfold orderedF; simp; omega
      have hwo : IntKind.u64.wrap (ro : Int) = (ro : Int) := wrap_u64 _ (by omega) (by omega)
      rw [ho]
      clear ho
      go_wp2_with fail
      refine (HW2.out.num ro (by omega) 4).mono ?_
      rintro e w3 ⟨rfl, hW, _⟩
      rw [show numW 512 (0, [rk]) ro 4 = _ from numW_fit (n := 4) (by decide) (by decide) (by omega) (by simp)] at hW
      have HW3 := Lib.hid hW
      clear hW hg2
      have hg3 := HW3.out.gr
      have hwn : IntKind.u8.wrap (n : Int) = ((UInt8.ofNat n).toNat : Int) := by simp [IntKind.wrap, IntKind.signed, IntKind.bits]
      obtain ⟨nb, hnb⟩ : ∃ nb, UInt8.ofNat n = nb := ⟨_, rfl⟩
      rw [hnb] at hwn
      have HNB := Lib.hid hnb
      clear hnb
      go_wp2_with fail
      refine ((HW3.out.grown (World.grownBy_alloc _ _ none)).raw _ 2 2 [rp, nb] rfl (RB.const _ _ _ _ [rp, nb] _ (by simp) rfl)).mono ?_
      rintro e w4 ⟨rfl, hW, _⟩
      rw [rawW_fit (by simp [numB_length])] at hW
      have HW4 := Lib.hid hW
      clear hW hg3 hwn
      have hg4 := HW4.out.gr
      obtain ⟨P, hP⟩ : ∃ P, [rk] ++ numB ro 4 ++ [rp, nb] = P := ⟨_, rfl⟩
      have hPl : P.length = 7 := by rw [← hP]; simp [numB_length]
      rw [hP] at HW4
      rw [HLN.out, HNB.out, hP] at HRB
      have HPL := Lib.hid hPl
      clear hP hPl
      go_wp2_with fail
      generalize wb.heap.size = g at *
      go_loopw [44] (fun i wr => EncLn wb g P rL n i wr) (fun i _ => n - (intOf i).toNat)
      case atStart => exact ⟨0, Nat.zero_le _, rfl, by simpa [linesB] using HW4.out⟩
      case round =>
        obtain ⟨j, hj, rfl, hW⟩ := hrel
        have HW := Lib.hid hW
        have hgr := hW.gr
        clear hW
        by_cases hjt : j < n
        · obtain ⟨⟨x, y⟩, he⟩ : ∃ e, rL[j]'(by rw [HLN.out]; exact hjt) = e := ⟨_, rfl⟩
          obtain ⟨b, o, rfl, h0, h1⟩ := HB.out.list j (by simp only; rw [HLN.out]; exact hjt)
          simp only at h0 h1
          rw [he] at h0 h1
          have hgw := grown_trans HGB.out hgr
          have d0 := grown_cell hgw h0
          have d1 := grown_cell hgw h1
          simp only at d0 d1
          have hln : (P ++ linesB (rL.take j)).length ≤ 7 + 27 := by
            rw [List.length_append, HPL.out, linesB_length]
            have : (rL.take j).length ≤ j := List.length_take_le _ _
            omega
          have hnx : P ++ linesB (rL.take (j + 1)) = P ++ linesB (rL.take j) ++ ([x] ++ numB (u64n y) 8) := by rw [linesB_snoc rL j (by rw [HLN.out]; exact hjt), he, List.append_assoc]; rfl
          obtain ⟨Q, hQ⟩ : ∃ Q, P ++ linesB (rL.take j) = Q := ⟨_, rfl⟩
          rw [hQ] at HW hln hnx
          have HNX := Lib.hid hnx
          have HBY := Lib.hid (Box.new wr 73 [.int .u8 (x.toNat : Int), .int .i64 y] wr.heap.size rfl)
          have HWA := Lib.hid (HW.out.grown (World.grownBy_alloc wr (.cells #[.int .u8 (x.toNat : Int), .int .i64 y] 73) none))
          have HOF := Lib.hid ((HW.out.off (Nat.le_refl _)).grown HW.out (World.grownBy_alloc wr (.cells #[.int .u8 (x.toNat : Int), .int .i64 y] 73) none))
          clear h0 h1 he hnx hQ hgw
          go_wp2_with fail
          refine ((HWA.out.grown (World.grownBy_alloc _ _ none)).raw _ 1 1 [x] rfl (RB.one _ _ (by simp) x _ _)).mono ?_
          rintro e w5 ⟨rfl, hW, hO⟩
          rw [rawW_fit (by simp; omega)] at hW
          obtain ⟨hbx, hof⟩ := hO _ _ _ (HBY.out.alloc _) (HOF.out.grown HWA.out (World.grownBy_alloc _ _ none))
          have HW5 := Lib.hid hW
          have X5 := hbx.look
          have hg5 := hW.gr
          clear hW hO hbx hof HWA HBY HOF d0 d1 hgr
          go_wp2_with fail
          refine (HW5.out.int y (u64n y) (u64n_eq y)).mono ?_
          rintro e w6 ⟨rfl, hW, _⟩
          rw [show numW 512 (0, Q ++ [x]) (u64n y) 8 = _ from numW_fit (n := 8) (by decide) (by decide) (u64n_lt _) (by simp; omega), List.append_assoc] at hW
          have HW6 := Lib.hid hW
          clear hW hg5 X5
          go_wp2_with fail
          go_roundw
          case rel => exact ⟨j + 1, by omega, by go_num, by rw [HNX.out]; exact HW6.out⟩
          case measure => simp [intOf]; omega
        · obtain rfl : j = n := by omega
          have HWL := Lib.hid (show Wr wb wr g (0, P ++ linesB rL) 512 by have h := HW.out; rw [List.take_of_length_le (by rw [HLN.out]; exact Nat.le_refl _)] at h; exact h)
          go_wp2_with fail
          refine (HM.out _).mono ?_
          rintro e w8 ⟨rfl, rfl⟩
          go_wp2_with fail
          refine HWL.out.done.mono ?_
          rintro e w9 ⟨a9, n9, c9, rfl, hn9, hr9, hg9⟩
          rw [if_pos rfl] at hn9 hr9
          have HN9 := Lib.hid hn9; have HR9 := Lib.hid hr9; have HG9 := Lib.hid (grown_trans HGB.out hg9)
          clear hn9 hr9 hg9
          go_wp2_with fail
          go_ret2
          rw [HX.out, HRB.out]
          exact ⟨a9, n9, c9, rfl, HN9.out, HR9.out, HG9.out⟩
    · by_cases hk4 : rk.toNat ≤ 4
      · have HRB := Lib.hid (show reqB ⟨rk, ro, rp, rL, rs, rf, rt, rq⟩ = [rk] ++ numB ro 4 by unfold reqB; rw [if_neg e1, if_pos hk4])
        rw [decide_eq_false e1] at q1
        have e6 : ¬ rk = 6 := by intro h; rw [h] at hk4; exact absurd hk4 (by decide)
        have e5 : ¬ rk = 5 := by intro h; rw [h] at hk4; exact absurd hk4 (by decide)
        rw [decide_eq_false e6] at q6
        rw [decide_eq_false e5, decide_eq_false e6] at HM
        clear e1 e5 e6
        have ho : orderedF (rk.toNat : Int) = true := by unfold orderedF; simp; omega
        have hwo : IntKind.u64.wrap (ro : Int) = (ro : Int) := wrap_u64 _ (by omega) (by omega)
        rw [ho]
        clear ho
        go_wp2_with fail
        refine (HW2.out.num ro (by omega) 4).mono ?_
        rintro e w3 ⟨rfl, hW, _⟩
        rw [show numW 512 (0, [rk]) ro 4 = _ from numW_fit (n := 4) (by decide) (by decide) (by omega) (by simp)] at hW
        have HW3 := Lib.hid hW
        clear hW hg2
        have hg3 := HW3.out.gr
        have HWL := Lib.hid HW3.out
        go_wp2_with fail
        refine (HM.out _).mono ?_
        rintro e w8 ⟨rfl, rfl⟩
        go_wp2_with fail
        refine HWL.out.done.mono ?_
        rintro e w9 ⟨a9, n9, c9, rfl, hn9, hr9, hg9⟩
        rw [if_pos rfl] at hn9 hr9
        have HN9 := Lib.hid hn9; have HR9 := Lib.hid hr9; have HG9 := Lib.hid (grown_trans HGB.out hg9)
        clear hn9 hr9 hg9
        go_wp2_with fail
        go_ret2
        rw [HX.out, HRB.out]
        exact ⟨a9, n9, c9, rfl, HN9.out, HR9.out, HG9.out⟩
      · by_cases e5 : rk = 5
        · have HRB := Lib.hid (show reqB ⟨rk, ro, rp, rL, rs, rf, rt, rq⟩ = [rk] ++ [rs] ++ [rt] ++ numB (u64n rq) 8 by unfold reqB; rw [if_neg e1, if_neg hk4, if_pos e5])
          have e6 : ¬ rk = 6 := by rw [e5]; decide
          rw [decide_eq_false e6] at q6
          rw [decide_eq_true e5, Bool.true_or] at HM
          clear e5 e6
          have ho : orderedF (rk.toNat : Int) = false := by unfold orderedF; simp; omega
          rw [ho]
          rw [decide_eq_false e1] at q1
          clear ho
          go_wp2_with fail
          refine ((HW2.out.grown (World.grownBy_alloc _ _ none)).raw _ 1 1 [rs] rfl (RB.one _ _ (by simp) rs _ _)).mono ?_
          rintro e w3 ⟨rfl, hW, _⟩
          rw [rawW_fit (by simp)] at hW
          have HW3 := Lib.hid hW
          clear hW hg2
          have hg3 := HW3.out.gr
          go_wp2_with fail
          refine (HM.out _).mono ?_
          rintro e w8 ⟨rfl, rfl⟩
          go_wp2_with fail
          refine ((HW3.out.grown (World.grownBy_alloc _ _ none)).raw _ 1 1 [rt] rfl (RB.one _ _ (by simp) rt _ _)).mono ?_
          rintro e w4 ⟨rfl, hW, _⟩
          rw [rawW_fit (by simp)] at hW
          have HW4 := Lib.hid hW
          clear hW hg3
          have hg4 := HW4.out.gr
          go_wp2_with fail
          refine (HW4.out.int rq (u64n rq) (u64n_eq rq)).mono ?_
          rintro e w7 ⟨rfl, hW, _⟩
          rw [show numW 512 (0, [rk] ++ [rs] ++ [rt]) (u64n rq) 8 = _ from numW_fit (n := 8) (by decide) (by decide) (u64n_lt _) (by simp)] at hW
          have HWL := Lib.hid hW
          clear hW hg4
          go_wp2_with fail
          refine HWL.out.done.mono ?_
          rintro e w9 ⟨a9, n9, c9, rfl, hn9, hr9, hg9⟩
          rw [if_pos rfl] at hn9 hr9
          have HN9 := Lib.hid hn9; have HR9 := Lib.hid hr9; have HG9 := Lib.hid (grown_trans HGB.out hg9)
          clear hn9 hr9 hg9
          go_wp2_with fail
          go_ret2
          rw [HX.out, HRB.out]
          exact ⟨a9, n9, c9, rfl, HN9.out, HR9.out, HG9.out⟩
        · by_cases e6 : rk = 6
          · have HRB := Lib.hid (show reqB ⟨rk, ro, rp, rL, rs, rf, rt, rq⟩ = [rk] ++ [rs] ++ [rf] ++ [rt] ++ numB (u64n rq) 8 by unfold reqB; rw [if_neg e1, if_neg hk4, if_neg e5, if_pos e6])
            rw [decide_eq_true e6] at q6
            rw [decide_eq_true e6, Bool.or_true] at HM
            clear e5 e6
            have ho : orderedF (rk.toNat : Int) = false := by unfold orderedF; simp; omega
            rw [ho]
            rw [decide_eq_false e1] at q1
            clear ho
            go_wp2_with fail
            refine ((HW2.out.grown (World.grownBy_alloc _ _ none)).raw _ 1 1 [rs] rfl (RB.one _ _ (by simp) rs _ _)).mono ?_
            rintro e w3 ⟨rfl, hW, _⟩
            rw [rawW_fit (by simp)] at hW
            have HW3 := Lib.hid hW
            clear hW hg2
            have hg3 := HW3.out.gr
            go_wp2_with fail
            refine ((HW3.out.grown (World.grownBy_alloc _ _ none)).raw _ 1 1 [rf] rfl (RB.one _ _ (by simp) rf _ _)).mono ?_
            rintro e w4 ⟨rfl, hW, _⟩
            rw [rawW_fit (by simp)] at hW
            have HW4 := Lib.hid hW
            clear hW hg3
            have hg4 := HW4.out.gr
            go_wp2_with fail
            refine (HM.out _).mono ?_
            rintro e w8 ⟨rfl, rfl⟩
            go_wp2_with fail
            refine ((HW4.out.grown (World.grownBy_alloc _ _ none)).raw _ 1 1 [rt] rfl (RB.one _ _ (by simp) rt _ _)).mono ?_
            rintro e w5 ⟨rfl, hW, _⟩
            rw [rawW_fit (by simp)] at hW
            have HW5 := Lib.hid hW
            clear hW hg4
            have hg5 := HW5.out.gr
            go_wp2_with fail
            refine (HW5.out.int rq (u64n rq) (u64n_eq rq)).mono ?_
            rintro e w7 ⟨rfl, hW, _⟩
            rw [show numW 512 (0, [rk] ++ [rs] ++ [rf] ++ [rt]) (u64n rq) 8 = _ from numW_fit (n := 8) (by decide) (by decide) (u64n_lt _) (by simp)] at hW
            have HWL := Lib.hid hW
            clear hW hg5
            go_wp2_with fail
            refine HWL.out.done.mono ?_
            rintro e w9 ⟨a9, n9, c9, rfl, hn9, hr9, hg9⟩
            rw [if_pos rfl] at hn9 hr9
            have HN9 := Lib.hid hn9; have HR9 := Lib.hid hr9; have HG9 := Lib.hid (grown_trans HGB.out hg9)
            clear hn9 hr9 hg9
            go_wp2_with fail
            go_ret2
            rw [HX.out, HRB.out]
            exact ⟨a9, n9, c9, rfl, HN9.out, HR9.out, HG9.out⟩
          · have HRB := Lib.hid (show reqB ⟨rk, ro, rp, rL, rs, rf, rt, rq⟩ = [rk] ++ [rs] by unfold reqB; rw [if_neg e1, if_neg hk4, if_neg e5, if_neg e6])
            rw [decide_eq_false e6] at q6
            rw [decide_eq_false e5, decide_eq_false e6] at HM
            clear e5 e6
            have ho : orderedF (rk.toNat : Int) = false := by unfold orderedF; simp; omega
            rw [ho]
            rw [decide_eq_false e1] at q1
            clear ho
            go_wp2_with fail
            refine ((HW2.out.grown (World.grownBy_alloc _ _ none)).raw _ 1 1 [rs] rfl (RB.one _ _ (by simp) rs _ _)).mono ?_
            rintro e w3 ⟨rfl, hW, _⟩
            rw [rawW_fit (by simp)] at hW
            have HW3 := Lib.hid hW
            clear hW hg2
            have hg3 := HW3.out.gr
            have HWL := Lib.hid HW3.out
            go_wp2_with fail
            refine (HM.out _).mono ?_
            rintro e w8 ⟨rfl, rfl⟩
            go_wp2_with fail
            refine HWL.out.done.mono ?_
            rintro e w9 ⟨a9, n9, c9, rfl, hn9, hr9, hg9⟩
            rw [if_pos rfl] at hn9 hr9
            have HN9 := Lib.hid hn9; have HR9 := Lib.hid hr9; have HG9 := Lib.hid (grown_trans HGB.out hg9)
            clear hn9 hr9 hg9
            go_wp2_with fail
            go_ret2
            rw [HX.out, HRB.out]
            exact ⟨a9, n9, c9, rfl, HN9.out, HR9.out, HG9.out⟩

end Go.Proofs.Ytomnhgcjdnhijaa
