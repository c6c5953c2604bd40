/-
  Two configurations that are the same.
-/
import Derived.Test.YtfmcbnoldcfcbaaCArgs
import Derived.Test.YtfmcbnoldcfcbaaCWorks
import Derived.Deep.DeepCutAuto
namespace Go.Proofs.Ytfmcbnoldcfcbaa
open Go.RowKit
set_option maxRecDepth 100000

theorem info_u8e : (Try.prog.info? 5).map (fun i => (i.zero, i.size, i.bytes)) = some (some (.int .u8 0), 1, 1) := by kernel_rfl
theorem info_row4 : (Try.prog.info? 46).map (fun i => (i.zero, i.size, i.bytes)) = some (some (.agg #[.int .u8 0, .int .u8 0, .int .u8 0, .int .u8 0]), 4, 4) := by kernel_rfl
theorem run_eqrow (x0 x1 x2 x3 : Int) (w : World) :
    (Op.equalIn 9999 46 (.agg #[.int .u8 x0, .int .u8 x1, .int .u8 x2, .int .u8 x3]) (.agg #[.int .u8 x0, .int .u8 x1, .int .u8 x2, .int .u8 x3])).run Try.prog w = .ok true w := by
  obtain ⟨inf, hi, hz0, hz1, hz2⟩ := info_parts info_u8e
  have hs : ∀ x y : Int, (Op.equalIn 9998 5 (.int .u8 x) (.int .u8 y)).run Try.prog w = .ok (x == y) w := fun x y => by
    rw [show (9998 : Nat) = 9997 + 1 from rfl]
    exact run_equalIn_int w 9997 5 .u8 .u8 _ _ Try.underlying5
  have h0 := hs x0 x0
  have h1 := hs x1 x1
  have h2 := hs x2 x2
  have h3 := hs x3 x3
  rw [show (9999 : Nat) = 9998 + 1 from rfl, Op.equalIn]
  simp only [Sem.run_bind, run_underlying Try.underlying46, Result.andThen_ok]
  simp only [Std.Legacy.Range.forIn_eq_forIn_range', Std.Legacy.Range.size, Nat.sub_zero, Nat.add_sub_cancel, Nat.div_one, List.range'_succ, List.range'_zero, List.forIn_cons, List.forIn_nil]
  simp [run_underlying Try.underlying5, sizeOf, typeInfo, hi, hz1, part, isAgg, h0, h1, h2, h3]
theorem run_eq44 (x00 x01 x02 x03 x10 x11 x12 x13 x20 x21 x22 x23 x30 x31 x32 x33 : Int) (w : World) :
    (Op.equalIn 10000 47 (.agg #[.int .u8 x00, .int .u8 x01, .int .u8 x02, .int .u8 x03, .int .u8 x10, .int .u8 x11, .int .u8 x12, .int .u8 x13, .int .u8 x20, .int .u8 x21, .int .u8 x22, .int .u8 x23, .int .u8 x30, .int .u8 x31, .int .u8 x32, .int .u8 x33]) (.agg #[.int .u8 x00, .int .u8 x01, .int .u8 x02, .int .u8 x03, .int .u8 x10, .int .u8 x11, .int .u8 x12, .int .u8 x13, .int .u8 x20, .int .u8 x21, .int .u8 x22, .int .u8 x23, .int .u8 x30, .int .u8 x31, .int .u8 x32, .int .u8 x33])).run Try.prog w = .ok true w := by
  obtain ⟨inf, hi, hz0, hz1, hz2⟩ := info_parts info_row4
  have h0 := run_eqrow x00 x01 x02 x03 w
  have h1 := run_eqrow x10 x11 x12 x13 w
  have h2 := run_eqrow x20 x21 x22 x23 w
  have h3 := run_eqrow x30 x31 x32 x33 w
  rw [show (10000 : Nat) = 9999 + 1 from rfl, Op.equalIn]
  simp only [Sem.run_bind, run_underlying Try.underlying47, Result.andThen_ok]
  simp only [Std.Legacy.Range.forIn_eq_forIn_range', Std.Legacy.Range.size, Nat.sub_zero, Nat.add_sub_cancel, Nat.div_one, List.range'_succ, List.range'_zero, List.forIn_cons, List.forIn_nil]
  simp [run_underlying Try.underlying46, sizeOf, typeInfo, hi, hz1, part, isAgg, h0, h1, h2, h3]
theorem wpList_load_confP {ops : Array Oper} {rest : List Oper} {o : Oper} {a : Act} {w : World} {Q : Exit → Act → World → Prop} (hw : Region.wanted o (yielded ops a.tmps) = true) (x : Operand) (ho : o.op = .load 47 x)
    (g : Nat) (cs ps : List Value) (hx : a.eval x = .pointer (some ⟨g, 3, none⟩)) (hb : Box w g 49 cs) (hp : ∀ j v, ps[j]? = some v → cs[3 + j]? = some v) (hl : ps.length = 16)
    (h : wpList Try.prog ops Q rest (a.put o.dst (.agg ps.toArray)) w) : wpList Try.prog ops Q (o :: rest) a w :=
  wpList_step fun K hK => by
    rw [if_pos hw]
    exact wp_load_mid _ x ho g 3 hx ps _ (fun j v hv => by rw [hb.look (3 + j)]; exact hp j v hv) Try.underlying47 rfl (by rw [hl]; kernel_rfl) (hK _ _ h)
def SameRel (n : Nat) (w : World) (i : Value) (wr : World) : Prop := ∃ j : Nat, j ≤ n ∧ i = .int .i64 j ∧ w.grownBy wr none
theorem same_row (c : ConfP) (a : Option Addr) (n k : Nat) : ∀ j v, ([.int .u8 ((c.p 0 0).toNat : Int), .int .u8 ((c.p 0 1).toNat : Int), .int .u8 ((c.p 0 2).toNat : Int), .int .u8 ((c.p 0 3).toNat : Int), .int .u8 ((c.p 1 0).toNat : Int), .int .u8 ((c.p 1 1).toNat : Int), .int .u8 ((c.p 1 2).toNat : Int), .int .u8 ((c.p 1 3).toNat : Int), .int .u8 ((c.p 2 0).toNat : Int), .int .u8 ((c.p 2 1).toNat : Int), .int .u8 ((c.p 2 2).toNat : Int), .int .u8 ((c.p 2 3).toNat : Int), .int .u8 ((c.p 3 0).toNat : Int), .int .u8 ((c.p 3 1).toNat : Int), .int .u8 ((c.p 3 2).toNat : Int), .int .u8 ((c.p 3 3).toNat : Int)] : List Value)[j]? = some v → ([.int .i64 c.sk, .int .i64 c.wa, .slice a n k, .int .u8 ((c.p 0 0).toNat : Int), .int .u8 ((c.p 0 1).toNat : Int), .int .u8 ((c.p 0 2).toNat : Int), .int .u8 ((c.p 0 3).toNat : Int), .int .u8 ((c.p 1 0).toNat : Int), .int .u8 ((c.p 1 1).toNat : Int), .int .u8 ((c.p 1 2).toNat : Int), .int .u8 ((c.p 1 3).toNat : Int), .int .u8 ((c.p 2 0).toNat : Int), .int .u8 ((c.p 2 1).toNat : Int), .int .u8 ((c.p 2 2).toNat : Int), .int .u8 ((c.p 2 3).toNat : Int), .int .u8 ((c.p 3 0).toNat : Int), .int .u8 ((c.p 3 1).toNat : Int), .int .u8 ((c.p 3 2).toNat : Int), .int .u8 ((c.p 3 3).toNat : Int), .int .i64 c.sg, .int .i64 c.od, .int .i64 c.rt, .int .i64 c.se, .int .i64 c.ca, .int .i64 c.bl, .int .i64 c.bs] : List Value)[3 + j]? = some v := by
  intro j v h
  have hj : j < 16 := by
    have := (List.getElem?_eq_some_iff.1 h).1
    simpa using this
  have : j = 0 ∨ j = 1 ∨ j = 2 ∨ j = 3 ∨ j = 4 ∨ j = 5 ∨ j = 6 ∨ j = 7 ∨ j = 8 ∨ j = 9 ∨ j = 10 ∨ j = 11 ∨ j = 12 ∨ j = 13 ∨ j = 14 ∨ j = 15 := by omega
  rcases this with rfl | rfl | rfl | rfl | rfl | rfl | rfl | rfl | rfl | rfl | rfl | rfl | rfl | rfl | rfl | rfl <;> exact h
set_option maxHeartbeats 12800000 in
theorem ref_same (c : ConfP) (a a' : Option Addr) (n k k' : Nat) (w : World) (hL : DeclList w a c.D) (hL' : DeclList w a' c.D) (hn : c.D.length = n) (hm : n ≤ maxLen) :
    Calls Try.prog 38 #[.agg #[.int .i64 c.sk, .int .i64 c.wa, .slice a n k, .int .u8 ((c.p 0 0).toNat : Int), .int .u8 ((c.p 0 1).toNat : Int), .int .u8 ((c.p 0 2).toNat : Int), .int .u8 ((c.p 0 3).toNat : Int), .int .u8 ((c.p 1 0).toNat : Int), .int .u8 ((c.p 1 1).toNat : Int), .int .u8 ((c.p 1 2).toNat : Int), .int .u8 ((c.p 1 3).toNat : Int), .int .u8 ((c.p 2 0).toNat : Int), .int .u8 ((c.p 2 1).toNat : Int), .int .u8 ((c.p 2 2).toNat : Int), .int .u8 ((c.p 2 3).toNat : Int), .int .u8 ((c.p 3 0).toNat : Int), .int .u8 ((c.p 3 1).toNat : Int), .int .u8 ((c.p 3 2).toNat : Int), .int .u8 ((c.p 3 3).toNat : Int), .int .i64 c.sg, .int .i64 c.od, .int .i64 c.rt, .int .i64 c.se, .int .i64 c.ca, .int .i64 c.bl, .int .i64 c.bs], .agg #[.int .i64 c.sk, .int .i64 c.wa, .slice a' n k', .int .u8 ((c.p 0 0).toNat : Int), .int .u8 ((c.p 0 1).toNat : Int), .int .u8 ((c.p 0 2).toNat : Int), .int .u8 ((c.p 0 3).toNat : Int), .int .u8 ((c.p 1 0).toNat : Int), .int .u8 ((c.p 1 1).toNat : Int), .int .u8 ((c.p 1 2).toNat : Int), .int .u8 ((c.p 1 3).toNat : Int), .int .u8 ((c.p 2 0).toNat : Int), .int .u8 ((c.p 2 1).toNat : Int), .int .u8 ((c.p 2 2).toNat : Int), .int .u8 ((c.p 2 3).toNat : Int), .int .u8 ((c.p 3 0).toNat : Int), .int .u8 ((c.p 3 1).toNat : Int), .int .u8 ((c.p 3 2).toNat : Int), .int .u8 ((c.p 3 3).toNat : Int), .int .i64 c.sg, .int .i64 c.od, .int .i64 c.rt, .int .i64 c.se, .int .i64 c.ca, .int .i64 c.bl, .int .i64 c.bs]] w fun r w' => r = .returned (.bool true) ∧ w.grownBy w' none := by
  have hmx : n ≤ 9223372036854775807 := hm
  have hsr := same_row c a n k
  have hsr' := same_row c a' n k'
  have HEQ := Lib.hid (fun u => run_eq44 ((c.p 0 0).toNat : Int) ((c.p 0 1).toNat : Int) ((c.p 0 2).toNat : Int) ((c.p 0 3).toNat : Int) ((c.p 1 0).toNat : Int) ((c.p 1 1).toNat : Int) ((c.p 1 2).toNat : Int) ((c.p 1 3).toNat : Int) ((c.p 2 0).toNat : Int) ((c.p 2 1).toNat : Int) ((c.p 2 2).toNat : Int) ((c.p 2 3).toNat : Int) ((c.p 3 0).toNat : Int) ((c.p 3 1).toNat : Int) ((c.p 3 2).toNat : Int) ((c.p 3 3).toNat : Int) u)
  obtain ⟨ps, hps⟩ : ∃ ps : List Value, [.int .u8 ((c.p 0 0).toNat : Int), .int .u8 ((c.p 0 1).toNat : Int), .int .u8 ((c.p 0 2).toNat : Int), .int .u8 ((c.p 0 3).toNat : Int), .int .u8 ((c.p 1 0).toNat : Int), .int .u8 ((c.p 1 1).toNat : Int), .int .u8 ((c.p 1 2).toNat : Int), .int .u8 ((c.p 1 3).toNat : Int), .int .u8 ((c.p 2 0).toNat : Int), .int .u8 ((c.p 2 1).toNat : Int), .int .u8 ((c.p 2 2).toNat : Int), .int .u8 ((c.p 2 3).toNat : Int), .int .u8 ((c.p 3 0).toNat : Int), .int .u8 ((c.p 3 1).toNat : Int), .int .u8 ((c.p 3 2).toNat : Int), .int .u8 ((c.p 3 3).toNat : Int)] = ps := ⟨_, rfl⟩
  have HPL := Lib.hid (show ps.length = 16 by rw [← hps]; rfl)
  obtain ⟨cs, hcs⟩ : ∃ cs : List Value, [.int .i64 c.sk, .int .i64 c.wa, .slice a n k, .int .u8 ((c.p 0 0).toNat : Int), .int .u8 ((c.p 0 1).toNat : Int), .int .u8 ((c.p 0 2).toNat : Int), .int .u8 ((c.p 0 3).toNat : Int), .int .u8 ((c.p 1 0).toNat : Int), .int .u8 ((c.p 1 1).toNat : Int), .int .u8 ((c.p 1 2).toNat : Int), .int .u8 ((c.p 1 3).toNat : Int), .int .u8 ((c.p 2 0).toNat : Int), .int .u8 ((c.p 2 1).toNat : Int), .int .u8 ((c.p 2 2).toNat : Int), .int .u8 ((c.p 2 3).toNat : Int), .int .u8 ((c.p 3 0).toNat : Int), .int .u8 ((c.p 3 1).toNat : Int), .int .u8 ((c.p 3 2).toNat : Int), .int .u8 ((c.p 3 3).toNat : Int), .int .i64 c.sg, .int .i64 c.od, .int .i64 c.rt, .int .i64 c.se, .int .i64 c.ca, .int .i64 c.bl, .int .i64 c.bs] = cs := ⟨_, rfl⟩
  obtain ⟨ds, hds⟩ : ∃ ds : List Value, [.int .i64 c.sk, .int .i64 c.wa, .slice a' n k', .int .u8 ((c.p 0 0).toNat : Int), .int .u8 ((c.p 0 1).toNat : Int), .int .u8 ((c.p 0 2).toNat : Int), .int .u8 ((c.p 0 3).toNat : Int), .int .u8 ((c.p 1 0).toNat : Int), .int .u8 ((c.p 1 1).toNat : Int), .int .u8 ((c.p 1 2).toNat : Int), .int .u8 ((c.p 1 3).toNat : Int), .int .u8 ((c.p 2 0).toNat : Int), .int .u8 ((c.p 2 1).toNat : Int), .int .u8 ((c.p 2 2).toNat : Int), .int .u8 ((c.p 2 3).toNat : Int), .int .u8 ((c.p 3 0).toNat : Int), .int .u8 ((c.p 3 1).toNat : Int), .int .u8 ((c.p 3 2).toNat : Int), .int .u8 ((c.p 3 3).toNat : Int), .int .i64 c.sg, .int .i64 c.od, .int .i64 c.rt, .int .i64 c.se, .int .i64 c.ca, .int .i64 c.bl, .int .i64 c.bs] = ds := ⟨_, rfl⟩
  rw [hps] at hsr hsr' HEQ
  rw [hcs] at hsr ⊢
  rw [hds] at hsr' ⊢
  have e0 : cs[0]? = some (.int .i64 c.sk) := by rw [← hcs]; rfl
  have f0 : ds[0]? = some (.int .i64 c.sk) := by rw [← hds]; rfl
  have e1 : cs[1]? = some (.int .i64 c.wa) := by rw [← hcs]; rfl
  have f1 : ds[1]? = some (.int .i64 c.wa) := by rw [← hds]; rfl
  have e19 : cs[19]? = some (.int .i64 c.sg) := by rw [← hcs]; rfl
  have f19 : ds[19]? = some (.int .i64 c.sg) := by rw [← hds]; rfl
  have e20 : cs[20]? = some (.int .i64 c.od) := by rw [← hcs]; rfl
  have f20 : ds[20]? = some (.int .i64 c.od) := by rw [← hds]; rfl
  have e21 : cs[21]? = some (.int .i64 c.rt) := by rw [← hcs]; rfl
  have f21 : ds[21]? = some (.int .i64 c.rt) := by rw [← hds]; rfl
  have e22 : cs[22]? = some (.int .i64 c.se) := by rw [← hcs]; rfl
  have f22 : ds[22]? = some (.int .i64 c.se) := by rw [← hds]; rfl
  have e23 : cs[23]? = some (.int .i64 c.ca) := by rw [← hcs]; rfl
  have f23 : ds[23]? = some (.int .i64 c.ca) := by rw [← hds]; rfl
  have e24 : cs[24]? = some (.int .i64 c.bl) := by rw [← hcs]; rfl
  have f24 : ds[24]? = some (.int .i64 c.bl) := by rw [← hds]; rfl
  have e25 : cs[25]? = some (.int .i64 c.bs) := by rw [← hcs]; rfl
  have f25 : ds[25]? = some (.int .i64 c.bs) := by rw [← hds]; rfl
  have e2 : cs[2]? = some (.slice a n k) := by rw [← hcs]; rfl
  have f2 : ds[2]? = some (.slice a' n k') := by rw [← hds]; rfl
  have HSR := Lib.hid hsr; have HSR' := Lib.hid hsr'
  have hb1 := (Box.new w 49 cs w.heap.size rfl).alloc (.cells ds.toArray 49)
  have hb2 := Box.new (w.alloc (.cells cs.toArray 49)) 49 ds (w.heap.size + 1) (by simp)
  obtain ⟨w1, hw1⟩ : ∃ u, (w.alloc (.cells cs.toArray 49)).alloc (.cells ds.toArray 49) = u := ⟨_, rfl⟩
  have hg1 : w.grownBy w1 none := by rw [← hw1]; exact growA _ _ (World.grownBy_alloc _ _ _)
  rw [hw1] at hb1 hb2
  have HB1 := Lib.hid hb1; have HB2 := Lib.hid hb2; have HG1 := Lib.hid hg1; have HW1 := Lib.hid (fun _ : True => hw1)
  have HL := Lib.hid (hL.grown hg1); have HL' := Lib.hid (hL'.grown hg1)
  have HN := Lib.hid (fun _ : True => hn)
  have a2 := hb1.cell 2 e2
  have b2 := hb2.cell 2 f2
  have a0 := hb1.cell 0 e0
  have b0 := hb2.cell 0 f0
  have a1 := hb1.cell 1 e1
  have b1 := hb2.cell 1 f1
  have a19 := hb1.cell 19 e19
  have b19 := hb2.cell 19 f19
  have a20 := hb1.cell 20 e20
  have b20 := hb2.cell 20 f20
  have a21 := hb1.cell 21 e21
  have b21 := hb2.cell 21 f21
  have a22 := hb1.cell 22 e22
  have b22 := hb2.cell 22 f22
  have a23 := hb1.cell 23 e23
  have b23 := hb2.cell 23 f23
  have a24 := hb1.cell 24 e24
  have b24 := hb2.cell 24 f24
  have a25 := hb1.cell 25 e25
  have b25 := hb2.cell 25 f25
  have HE := Lib.hid (And.intro hsr hsr')
  have cc : ((w.alloc (.cells cs.toArray 49)).alloc (.cells ds.toArray 49)).cell? ⟨w.heap.size, 2, none⟩ = some (.slice a n k) := by rw [hw1]; exact a2
  have cd : ((w.alloc (.cells cs.toArray 49)).alloc (.cells ds.toArray 49)).cell? ⟨w.heap.size + 1, 2, none⟩ = some (.slice a' n k') := by rw [hw1]; exact b2
  clear hb1 hb2 hg1 hw1 hsr hsr' hps hcs hds hn hL hL' hm e2 f2 e0 f0 e1 f1 e19 f19 e20 f20 e21 f21 e22 f22 e23 f23 e24 f24 e25 f25
  go_enter Try.func38, Try.ntmps38
  go_wp2_with fail
  rw [HW1.out trivial]
  clear cc cd
  have HAA := Lib.hid (And.intro a2 b2)
  have HAB := Lib.hid (fun u (h : w1.grownBy u none) => (And.intro (grown_cell h a0) (And.intro (grown_cell h b0) (And.intro (grown_cell h a1) (And.intro (grown_cell h b1) (And.intro (grown_cell h a19) (And.intro (grown_cell h b19) (And.intro (grown_cell h a20) (And.intro (grown_cell h b20) (And.intro (grown_cell h a21) (And.intro (grown_cell h b21) (And.intro (grown_cell h a22) (And.intro (grown_cell h b22) (And.intro (grown_cell h a23) (And.intro (grown_cell h b23) (And.intro (grown_cell h a24) (And.intro (grown_cell h b24) (And.intro (grown_cell h a25) (grown_cell h b25)))))))))))))))))))
  clear a2 b2 a0 b0 a1 b1 a19 b19 a20 b20 a21 b21 a22 b22 a23 b23 a24 b24 a25 b25
  go_loopw [5] (fun i wr => SameRel n w1 i wr) (fun i _ => n - (intOf i).toNat)
  case atStart => exact ⟨0, Nat.zero_le _, rfl, World.grownBy.refl _ _⟩
  case round =>
    obtain ⟨j, hj, rfl, hg⟩ := hrel
    have HG := Lib.hid hg
    have a2 := grown_cell hg HAA.out.1
    have b2 := grown_cell hg HAA.out.2
    by_cases hlt : j < n
    · have hD := HL.out.grown HG.out j (by rw [HN.out trivial]; exact hlt)
      have hD' := HL'.out.grown HG.out j (by rw [HN.out trivial]; exact hlt)
      obtain ⟨y, hy⟩ : ∃ y, c.D[j]'(by rw [HN.out trivial]; exact hlt) = y := ⟨_, rfl⟩
      rw [hy] at hD hD'
      clear hy
      obtain ⟨y1, hy1⟩ : ∃ z : Nat, y.k.1.toNat = z := ⟨_, rfl⟩
      obtain ⟨y2, hy2⟩ : ∃ z : Nat, y.k.2.1.toNat = z := ⟨_, rfl⟩
      obtain ⟨y3, hy3⟩ : ∃ z : Nat, y.k.2.2.toNat = z := ⟨_, rfl⟩
      obtain ⟨b, o, ea, d0, d1, d2, d3, d4, d5⟩ := hD
      obtain ⟨b', o', ea', q0, q1, q2, q3, q4, q5⟩ := hD'
      rw [hy1] at d0 q0
      rw [hy2] at d1 q1
      rw [hy3] at d2 q2
      subst ea ea'
      clear hy1 hy2 hy3
      have i0 : (0 : Int) ≤ (j : Int) := by omega
      have i1 : (j : Int) < (n : Int) := by omega
      go_wp2_with fail
      go_quiet (fail)
      generalize hq : wr.drewN _ = wq
      have HQ := Lib.hid (show w1.grownBy wq none by rw [← hq]; exact grown_trans HG.out (grown_drewN _ _))
      clear hq
      go_wp2_with fail
      go_roundw
      all_goals first
        | (exact ⟨j + 1, by omega, by go_num, HQ.out⟩)
        | (simp [intOf]; omega)
    · obtain rfl : j = n := by omega
      obtain ⟨a0, b0, a1, b1, a19, b19, a20, b20, a21, b21, a22, b22, a23, b23, a24, b24, a25, b25⟩ := HAB.out wr HG.out
      have heq := HEQ.out
      have HBW1 := Lib.hid (HB1.out.grown HG.out)
      have HBW2 := Lib.hid (HB2.out.grown HG.out)
      go_upto_region 8 with (fail)
      simp only [List.append_eq, List.cons_append, List.nil_append]
      go_wp2_with (first
        | (refine wpList_load_confP (o := ⟨some 45, _, _, _, _, _⟩) (by go_simp) _ rfl w.heap.size _ _ rfl HBW1.out HSR.out HPL.out ?_)
        | (refine wpList_load_confP (o := ⟨some 47, _, _, _, _, _⟩) (by go_simp) _ rfl (w.heap.size + 1) _ _ rfl HBW2.out HSR'.out HPL.out ?_))
      go_ret
      exact ⟨rfl, grown_trans HG1.out HG.out⟩

end Go.Proofs.Ytfmcbnoldcfcbaa
