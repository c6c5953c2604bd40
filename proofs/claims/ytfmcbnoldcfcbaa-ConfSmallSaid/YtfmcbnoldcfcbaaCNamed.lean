/-
  Whether of an article all warehouses are named.
-/
import Derived.Test.YtfmcbnoldcfcbaaCFunc
namespace Go.Proofs.Ytfmcbnoldcfcbaa
open Go.RowKit
set_option maxRecDepth 100000

/-- a row of four numbers, each 0 or 1 -/
def row4 (G : Nat → Bool) : List Value := [.int .i64 (if G 0 then 1 else 0), .int .i64 (if G 1 then 1 else 0), .int .i64 (if G 2 then 1 else 0), .int .i64 (if G 3 then 1 else 0)]
theorem row4_set (G : Nat → Bool) {i : Nat} (hi : i < 4) : (row4 G).set i (.int .i64 1) = row4 (fun j => G j || decide (j = i)) := by
  have : i = 0 ∨ i = 1 ∨ i = 2 ∨ i = 3 := by omega
  rcases this with rfl | rfl | rfl | rfl <;> simp [row4]
theorem row4_get (G : Nat → Bool) {i : Nat} (hi : i < 4) : (row4 G)[i]? = some (.int .i64 (if G i then 1 else 0)) := by
  have : i = 0 ∨ i = 1 ∨ i = 2 ∨ i = 3 := by omega
  rcases this with rfl | rfl | rfl | rfl <;> rfl
/-- the warehouses that are named among the first n -/
def gotF (p : Nat → UInt8) (v : Nat) : Nat → Nat → Bool
  | 0, _ => false
  | n + 1, i => gotF p v n i || (decide ((p n).toNat < v) && decide (i = (p n).toNat))
def namedF (p : Nat → UInt8) (v : Nat) : Bool := (gotF p v v 0 == decide (0 < v)) && (gotF p v v 1 == decide (1 < v)) && (gotF p v v 2 == decide (2 < v)) && (gotF p v v 3 == decide (3 < v))
def NamedRel (w : World) (cs : List Value) (p : Nat → UInt8) (v gg gw : Nat) (i : Value) (wr : World) : Prop :=
  Box wr w.heap.size 49 cs ∧ ∃ n : Nat, n ≤ v ∧ i = .int .i64 n ∧ Box wr gg 94 (row4 (gotF p v n)) ∧ Box wr gw 94 (row4 (fun j => decide (j < n))) ∧ w.grownBy wr none
theorem prio_cell (c : ConfP) (a : Option Addr) (n k : Nat) {s m : Nat} (hs : s < 4) (hm : m < 4) : ([.int .i64 c.sk, .int .i64 c.wa, .slice a n k, .int .u8 ((c.p 0 0).toNat : Int), .int .u8 ((c.p 0 1).toNat : Int), .int .u8 ((c.p 0 2).toNat : Int), .int .u8 ((c.p 0 3).toNat : Int), .int .u8 ((c.p 1 0).toNat : Int), .int .u8 ((c.p 1 1).toNat : Int), .int .u8 ((c.p 1 2).toNat : Int), .int .u8 ((c.p 1 3).toNat : Int), .int .u8 ((c.p 2 0).toNat : Int), .int .u8 ((c.p 2 1).toNat : Int), .int .u8 ((c.p 2 2).toNat : Int), .int .u8 ((c.p 2 3).toNat : Int), .int .u8 ((c.p 3 0).toNat : Int), .int .u8 ((c.p 3 1).toNat : Int), .int .u8 ((c.p 3 2).toNat : Int), .int .u8 ((c.p 3 3).toNat : Int), .int .i64 c.sg, .int .i64 c.od, .int .i64 c.rt, .int .i64 c.se, .int .i64 c.ca, .int .i64 c.bl, .int .i64 c.bs] : List Value)[3 + s * 4 + m]? = some (.int .u8 ((c.p s m).toNat : Int)) := by
  have h1 : s = 0 ∨ s = 1 ∨ s = 2 ∨ s = 3 := by omega
  have h2 : m = 0 ∨ m = 1 ∨ m = 2 ∨ m = 3 := by omega
  rcases h1 with rfl | rfl | rfl | rfl <;> rcases h2 with rfl | rfl | rfl | rfl <;> rfl
theorem info_int4 : (Try.prog.info? 3).map (fun i => (i.zero, i.size, i.bytes)) = some (some (.int .i64 0), 1, 8) := by kernel_rfl
theorem run_eq4 (a0 a1 a2 a3 b0 b1 b2 b3 : Int) (w : World) :
    (Op.equalIn 10000 94 (.agg #[.int .i64 a0, .int .i64 a1, .int .i64 a2, .int .i64 a3]) (.agg #[.int .i64 b0, .int .i64 b1, .int .i64 b2, .int .i64 b3])).run Try.prog w = .ok ((a0 == b0) && (a1 == b1) && (a2 == b2) && (a3 == b3)) w := by
  obtain ⟨inf, hi, hz0, hz1, hz2⟩ := info_parts info_int4
  have hs : ∀ x y : Int, (Op.equalIn 9999 3 (.int .i64 x) (.int .i64 y)).run Try.prog w = .ok (x == y) w := fun x y => by
    rw [show (9999 : Nat) = 9998 + 1 from rfl]
    exact run_equalIn_int w 9998 3 .i64 .i64 _ _ Try.underlying3
  have h0 := hs a0 b0
  have h1 := hs a1 b1
  have h2 := hs a2 b2
  have h3 := hs a3 b3
  rw [show (10000 : Nat) = 9999 + 1 from rfl, Op.equalIn]
  simp only [Sem.run_bind, run_underlying Try.underlying94, Result.andThen_ok]
  simp only [Std.Legacy.Range.forIn_eq_forIn_range', Std.Legacy.Range.size, Nat.sub_zero, Nat.add_sub_cancel, Nat.div_one, List.range'_succ, List.range'_zero, List.forIn_cons, List.forIn_nil]
  simp [run_underlying Try.underlying3, sizeOf, typeInfo, hi, hz1, part, isAgg, h0, h1, h2, h3]
  repeat' split
  all_goals simp_all
set_option maxHeartbeats 12800000 in
theorem conf_named (c : ConfP) (a : Option Addr) (n k : Nat) (s v : Nat) (hs : s < 4) (hv : v ≤ 4) (hwa : c.wa = (v : Int)) (w : World) :
    Calls Try.prog 57 #[.agg #[.int .i64 c.sk, .int .i64 c.wa, .slice a n k, .int .u8 ((c.p 0 0).toNat : Int), .int .u8 ((c.p 0 1).toNat : Int), .int .u8 ((c.p 0 2).toNat : Int), .int .u8 ((c.p 0 3).toNat : Int), .int .u8 ((c.p 1 0).toNat : Int), .int .u8 ((c.p 1 1).toNat : Int), .int .u8 ((c.p 1 2).toNat : Int), .int .u8 ((c.p 1 3).toNat : Int), .int .u8 ((c.p 2 0).toNat : Int), .int .u8 ((c.p 2 1).toNat : Int), .int .u8 ((c.p 2 2).toNat : Int), .int .u8 ((c.p 2 3).toNat : Int), .int .u8 ((c.p 3 0).toNat : Int), .int .u8 ((c.p 3 1).toNat : Int), .int .u8 ((c.p 3 2).toNat : Int), .int .u8 ((c.p 3 3).toNat : Int), .int .i64 c.sg, .int .i64 c.od, .int .i64 c.rt, .int .i64 c.se, .int .i64 c.ca, .int .i64 c.bl, .int .i64 c.bs], .int .i64 (s : Int)] w fun r w' => r = .returned (.bool (namedF (c.p s) v)) ∧ w.grownBy w' none := by
  have HWA := Lib.hid hwa
  have hbc := Box.new w 49 [.int .i64 c.sk, .int .i64 c.wa, .slice a n k, .int .u8 ((c.p 0 0).toNat : Int), .int .u8 ((c.p 0 1).toNat : Int), .int .u8 ((c.p 0 2).toNat : Int), .int .u8 ((c.p 0 3).toNat : Int), .int .u8 ((c.p 1 0).toNat : Int), .int .u8 ((c.p 1 1).toNat : Int), .int .u8 ((c.p 1 2).toNat : Int), .int .u8 ((c.p 1 3).toNat : Int), .int .u8 ((c.p 2 0).toNat : Int), .int .u8 ((c.p 2 1).toNat : Int), .int .u8 ((c.p 2 2).toNat : Int), .int .u8 ((c.p 2 3).toNat : Int), .int .u8 ((c.p 3 0).toNat : Int), .int .u8 ((c.p 3 1).toNat : Int), .int .u8 ((c.p 3 2).toNat : Int), .int .u8 ((c.p 3 3).toNat : Int), .int .i64 c.sg, .int .i64 c.od, .int .i64 c.rt, .int .i64 c.se, .int .i64 c.ca, .int .i64 c.bl, .int .i64 c.bs] w.heap.size rfl
  obtain ⟨w1, hw1⟩ : ∃ u, w.alloc (.cells #[.int .i64 c.sk, .int .i64 c.wa, .slice a n k, .int .u8 ((c.p 0 0).toNat : Int), .int .u8 ((c.p 0 1).toNat : Int), .int .u8 ((c.p 0 2).toNat : Int), .int .u8 ((c.p 0 3).toNat : Int), .int .u8 ((c.p 1 0).toNat : Int), .int .u8 ((c.p 1 1).toNat : Int), .int .u8 ((c.p 1 2).toNat : Int), .int .u8 ((c.p 1 3).toNat : Int), .int .u8 ((c.p 2 0).toNat : Int), .int .u8 ((c.p 2 1).toNat : Int), .int .u8 ((c.p 2 2).toNat : Int), .int .u8 ((c.p 2 3).toNat : Int), .int .u8 ((c.p 3 0).toNat : Int), .int .u8 ((c.p 3 1).toNat : Int), .int .u8 ((c.p 3 2).toNat : Int), .int .u8 ((c.p 3 3).toNat : Int), .int .i64 c.sg, .int .i64 c.od, .int .i64 c.rt, .int .i64 c.se, .int .i64 c.ca, .int .i64 c.bl, .int .i64 c.bs] 49) = u := ⟨_, rfl⟩
  have hs1 : w1.heap.size = w.heap.size + 1 := by rw [← hw1]; simp
  have hg1 : w.grownBy w1 none := by rw [← hw1]; exact World.grownBy_alloc _ _ _
  rw [hw1] at hbc
  have hbg := (Box.new w1 94 [.int .i64 0, .int .i64 0, .int .i64 0, .int .i64 0] w1.heap.size rfl).alloc (.cells #[.int .i64 0, .int .i64 0, .int .i64 0, .int .i64 0] 94)
  have hbw := Box.new (w1.alloc (.cells #[.int .i64 0, .int .i64 0, .int .i64 0, .int .i64 0] 94)) 94 [.int .i64 0, .int .i64 0, .int .i64 0, .int .i64 0] (w1.heap.size + 1) (by simp)
  have hbc2 := (hbc.alloc (.cells #[.int .i64 0, .int .i64 0, .int .i64 0, .int .i64 0] 94)).alloc (.cells #[.int .i64 0, .int .i64 0, .int .i64 0, .int .i64 0] 94)
  have hg3 := growA _ (.cells #[.int .i64 0, .int .i64 0, .int .i64 0, .int .i64 0] 94) (growA _ (.cells #[.int .i64 0, .int .i64 0, .int .i64 0, .int .i64 0] 94) hg1)
  have XC0 := hbc2.look
  have HBC := Lib.hid hbc2; have HBG := Lib.hid hbg; have HBW := Lib.hid hbw; have HG3 := Lib.hid hg3
  have HS1 := Lib.hid hs1
  clear hbc hbg hbw hbc2 hg3 hg1 hs1 hwa
  go_enter Try.func57, Try.ntmps57
  go_wp2_with fail
  generalize (w1.alloc (.cells #[.int .i64 0, .int .i64 0, .int .i64 0, .int .i64 0] 94)).alloc (.cells #[.int .i64 0, .int .i64 0, .int .i64 0, .int .i64 0] 94) = w3 at *
  have hgk1 : w.heap.size ≠ w1.heap.size := by have := HS1.out; omega
  have hlo1 := Lib.hid (show w.heap.size ≤ w1.heap.size by have := HS1.out; omega)
  generalize w1.heap.size = gg at *
  obtain ⟨gw, hgw⟩ : ∃ gw, gg + 1 = gw := ⟨_, rfl⟩
  rw [hgw] at HBW
  simp only [hgw]
  have n1 : gg ≠ gw := by omega
  have n2 : gw ≠ gg := by omega
  have n3 : gg ≠ w.heap.size := by omega
  have n4 : gw ≠ w.heap.size := by have := hlo1.out; omega
  have hlo2 := Lib.hid (show w.heap.size ≤ gw by have := hlo1.out; omega)
  clear hgw hgk1
  have SI := set_idx
  have SF := set_far
  go_loopw [11] (fun i wr => NamedRel w [.int .i64 c.sk, .int .i64 c.wa, .slice a n k, .int .u8 ((c.p 0 0).toNat : Int), .int .u8 ((c.p 0 1).toNat : Int), .int .u8 ((c.p 0 2).toNat : Int), .int .u8 ((c.p 0 3).toNat : Int), .int .u8 ((c.p 1 0).toNat : Int), .int .u8 ((c.p 1 1).toNat : Int), .int .u8 ((c.p 1 2).toNat : Int), .int .u8 ((c.p 1 3).toNat : Int), .int .u8 ((c.p 2 0).toNat : Int), .int .u8 ((c.p 2 1).toNat : Int), .int .u8 ((c.p 2 2).toNat : Int), .int .u8 ((c.p 2 3).toNat : Int), .int .u8 ((c.p 3 0).toNat : Int), .int .u8 ((c.p 3 1).toNat : Int), .int .u8 ((c.p 3 2).toNat : Int), .int .u8 ((c.p 3 3).toNat : Int), .int .i64 c.sg, .int .i64 c.od, .int .i64 c.rt, .int .i64 c.se, .int .i64 c.ca, .int .i64 c.bl, .int .i64 c.bs] (c.p s) v gg gw i wr) (fun i _ => v - (intOf i).toNat)
  case atStart => exact ⟨HBC.out, 0, Nat.zero_le _, rfl, HBG.out, HBW.out, HG3.out⟩
  case round =>
    obtain ⟨hbc, m, hm, rfl, hbg, hbw, hg⟩ := hrel
    have HC := Lib.hid hbc; have HGG := Lib.hid hbg; have HWW := Lib.hid hbw; have HG := Lib.hid hg
    have XC := hbc.cell 1 rfl
    clear XC0 hg
    by_cases hlt : m < v
    · have i0 : (0 : Int) ≤ (m : Int) := by omega
      have i1 : (m : Int) < c.wa := by rw [HWA.out]; omega
      have i2 : (m : Int) < 4 := by omega
      have i3 : (s : Int) < 4 := by omega
      have hpr := (hbc.look (3 + s * 4 + m)).trans (prio_cell c a n k hs (by omega))
      have hw0 := (hbw.look m).trans (row4_get _ (show m < 4 by omega))
      have hwo := hbw.open
      have hgo := hbg.open
      obtain ⟨y, hy⟩ : ∃ y, (c.p s m).toNat = y := ⟨_, rfl⟩
      rw [hy] at hpr
      have hyb : y < 256 := by rw [← hy]; exact (c.p s m).toNat_lt
      have hwr : wrap64 (y : Int) = (y : Int) := by unfold wrap64; omega
      have HY := Lib.hid hy
      clear hbc hbg hbw hy
      have j0 : (0 : Int) ≤ (y : Int) := by omega
      by_cases hat : y < v
      · have k1 : (y : Int) < c.wa := by rw [HWA.out]; omega
        have k2 : (y : Int) < 4 := by omega
        have hg0 := (HGG.out.look y).trans (row4_get _ (show y < 4 by omega))
        go_wp2_with fail
        go_roundw
        all_goals first
          | (refine ⟨(HC.out.kept (grown_setCell _ gw m _) (by simpa using n4)).kept (grown_setCell _ gg y _) (by simpa using n3), m + 1, by omega, by go_num, ?_, ?_, grown_new (grown_new HG.out hlo2.out (grown_setCell _ gw m _)) hlo1.out (grown_setCell _ gg y _)⟩
             · have h := (HGG.out.kept (grown_setCell _ gw m (.int .i64 1)) (by simpa using n2)).set y (.int .i64 1)
               rw [row4_set _ (by omega)] at h
               have e : (fun j => gotF (c.p s) v m j || decide (j = y)) = gotF (c.p s) v (m + 1) := by
                 funext j
                 show _ = (gotF (c.p s) v m j || (decide ((c.p s m).toNat < v) && decide (j = (c.p s m).toNat)))
                 rw [HY.out, decide_eq_true hat, Bool.true_and]
               rw [e] at h
               exact h
             · have h := (HWW.out.set m (.int .i64 1)).kept (grown_setCell _ gg y (.int .i64 1)) (by simpa using n1)
               rw [row4_set _ (by omega)] at h
               have e : (fun j => decide (j < m) || decide (j = m)) = fun j => decide (j < m + 1) := by
                 funext j
                 rw [← Bool.decide_or, decide_eq_decide]
                 omega
               rw [e] at h
               exact h)
          | (simp [intOf]; omega)
      · have k1 : ¬ (y : Int) < c.wa := by rw [HWA.out]; omega
        go_wp2_with fail
        go_roundw
        all_goals first
          | (refine ⟨HC.out.kept (grown_setCell _ gw m _) (by simpa using n4), m + 1, by omega, by go_num, ?_, ?_, grown_new HG.out hlo2.out (grown_setCell _ gw m _)⟩
             · have h := HGG.out.kept (grown_setCell _ gw m (.int .i64 1)) (by simpa using n2)
               have e : gotF (c.p s) v m = gotF (c.p s) v (m + 1) := by
                 funext j
                 show _ = (gotF (c.p s) v m j || (decide ((c.p s m).toNat < v) && decide (j = (c.p s m).toNat)))
                 rw [HY.out, decide_eq_false hat, Bool.false_and, Bool.or_false]
               rw [← e]
               exact h
             · have h := HWW.out.set m (.int .i64 1)
               rw [row4_set _ (by omega)] at h
               have e : (fun j => decide (j < m) || decide (j = m)) = fun j => decide (j < m + 1) := by
                 funext j
                 rw [← Bool.decide_or, decide_eq_decide]
                 omega
               rw [e] at h
               exact h)
          | (simp [intOf]; omega)
    · obtain rfl : m = v := by omega
      have i1 : ¬ (m : Int) < c.wa := by rw [HWA.out]; omega
      have g0 := hbg.cell 0 rfl
      have g1 := hbg.cell 1 rfl
      have g2 := hbg.cell 2 rfl
      have g3 := hbg.cell 3 rfl
      have v0 : wr.cell? ⟨gw, 0, none⟩ = some (.int .i64 (if decide (0 < m) = true then 1 else 0)) := hbw.cell 0 rfl
      have v1 : wr.cell? ⟨gw, 1, none⟩ = some (.int .i64 (if decide (1 < m) = true then 1 else 0)) := hbw.cell 1 rfl
      have v2 : wr.cell? ⟨gw, 2, none⟩ = some (.int .i64 (if decide (2 < m) = true then 1 else 0)) := hbw.cell 2 rfl
      have v3 : wr.cell? ⟨gw, 3, none⟩ = some (.int .i64 (if decide (3 < m) = true then 1 else 0)) := hbw.cell 3 rfl
      have HN := Lib.hid (show namedF (c.p s) m = ((gotF (c.p s) m m 0 == decide (0 < m)) && (gotF (c.p s) m m 1 == decide (1 < m)) && (gotF (c.p s) m m 2 == decide (2 < m)) && (gotF (c.p s) m m 3 == decide (3 < m))) from rfl)
      generalize gotF (c.p s) m m 0 = a0 at *
      generalize gotF (c.p s) m m 1 = a1 at *
      generalize gotF (c.p s) m m 2 = a2 at *
      generalize gotF (c.p s) m m 3 = a3 at *
      generalize decide (0 < m) = b0 at *
      generalize decide (1 < m) = b1 at *
      generalize decide (2 < m) = b2 at *
      generalize decide (3 < m) = b3 at *
      have E : ∀ x y : Bool, ((if x = true then (1 : Int) else 0) == (if y = true then (1 : Int) else 0)) = (x == y) := by decide
      have q0 := E a0 b0
      have q1 := E a1 b1
      have q2 := E a2 b2
      have q3 := E a3 b3
      generalize (if a0 = true then (1 : Int) else 0) = A0 at *
      generalize (if a1 = true then (1 : Int) else 0) = A1 at *
      generalize (if a2 = true then (1 : Int) else 0) = A2 at *
      generalize (if a3 = true then (1 : Int) else 0) = A3 at *
      generalize (if b0 = true then (1 : Int) else 0) = B0 at *
      generalize (if b1 = true then (1 : Int) else 0) = B1 at *
      generalize (if b2 = true then (1 : Int) else 0) = B2 at *
      generalize (if b3 = true then (1 : Int) else 0) = B3 at *
      generalize (a0 == b0) = r0 at *
      generalize (a1 == b1) = r1 at *
      generalize (a2 == b2) = r2 at *
      generalize (a3 == b3) = r3 at *
      clear hbc hbg hbw XC E
      have HQ := Lib.hid (show namedF (c.p s) m = ((A0 == B0) && (A1 == B1) && (A2 == B2) && (A3 == B3)) by rw [HN.out, q0, q1, q2, q3])
      have heq := fun u => run_eq4 A0 A1 A2 A3 B0 B1 B2 B3 u
      obtain ⟨rr, hrr⟩ : ∃ rr, ((A0 == B0) && (A1 == B1) && (A2 == B2) && (A3 == B3)) = rr := ⟨_, rfl⟩
      rw [hrr] at HQ
      simp only [hrr] at heq
      clear q0 q1 q2 q3 hrr
      go_wp2_with fail
      go_ret
      exact ⟨ret_bool HQ.out.symm, HG.out⟩

end Go.Proofs.Ytfmcbnoldcfcbaa
