/-
  Two configurations that are the same.
-/
import Derived.Test.YtomnhgcjdnhijaaCArgs
import Derived.Test.YtomnhgcjdnhijaaCWorks
import Derived.Deep.DeepCutAuto
namespace Go.Proofs.Ytomnhgcjdnhijaa
open Go.RowKit
set_option maxRecDepth 100000

theorem info_u8e : (Try.prog.info? 5).map (fun i => (i.zero, i.size, i.bytes)) = some (some (.int .u8 0), 1, 1) := by kernel_rfl
theorem info_row4 : (Try.prog.info? 59).map (fun i => (i.zero, i.size, i.bytes)) = some (some (.agg #[.int .u8 0, .int .u8 0, .int .u8 0, .int .u8 0]), 4, 4) := by kernel_rfl
theorem run_eqrow (x0 x1 x2 x3 : Int) (w : World) :
    (Op.equalIn 9999 59 (.agg #[.int .u8 x0, .int .u8 x1, .int .u8 x2, .int .u8 x3]) (.agg #[.int .u8 x0, .int .u8 x1, .int .u8 x2, .int .u8 x3])).run Try.prog w = .ok true w := by
  obtain ⟨inf, hi, hz0, hz1, hz2⟩ := info_parts info_u8e
  have hs : ∀ x y : Int, (Op.equalIn 9998 5 (.int .u8 x) (.int .u8 y)).run Try.prog w = .ok (x == y) w := fun x y => by
    rw [show (9998 : Nat) = 9997 + 1 from rfl]
    exact run_equalIn_int w 9997 5 .u8 .u8 _ _ Try.underlying5
  have h0 := hs x0 x0
  have h1 := hs x1 x1
  have h2 := hs x2 x2
  have h3 := hs x3 x3
  rw [show (9999 : Nat) = 9998 + 1 from rfl, Op.equalIn]
  simp only [Sem.run_bind, run_underlying Try.underlying59, Result.andThen_ok]
  simp only [Std.Legacy.Range.forIn_eq_forIn_range', Std.Legacy.Range.size, Nat.sub_zero, Nat.add_sub_cancel, Nat.div_one, List.range'_succ, List.range'_zero, List.forIn_cons, List.forIn_nil]
  simp [run_underlying Try.underlying5, sizeOf, typeInfo, hi, hz1, part, isAgg, h0, h1, h2, h3]
theorem run_eq44 (x00 x01 x02 x03 x10 x11 x12 x13 x20 x21 x22 x23 x30 x31 x32 x33 : Int) (w : World) :
    (Op.equalIn 10000 60 (.agg #[.int .u8 x00, .int .u8 x01, .int .u8 x02, .int .u8 x03, .int .u8 x10, .int .u8 x11, .int .u8 x12, .int .u8 x13, .int .u8 x20, .int .u8 x21, .int .u8 x22, .int .u8 x23, .int .u8 x30, .int .u8 x31, .int .u8 x32, .int .u8 x33]) (.agg #[.int .u8 x00, .int .u8 x01, .int .u8 x02, .int .u8 x03, .int .u8 x10, .int .u8 x11, .int .u8 x12, .int .u8 x13, .int .u8 x20, .int .u8 x21, .int .u8 x22, .int .u8 x23, .int .u8 x30, .int .u8 x31, .int .u8 x32, .int .u8 x33])).run Try.prog w = .ok true w := by
  obtain ⟨inf, hi, hz0, hz1, hz2⟩ := info_parts info_row4
  have h0 := run_eqrow x00 x01 x02 x03 w
  have h1 := run_eqrow x10 x11 x12 x13 w
  have h2 := run_eqrow x20 x21 x22 x23 w
  have h3 := run_eqrow x30 x31 x32 x33 w
  rw [show (10000 : Nat) = 9999 + 1 from rfl, Op.equalIn]
  simp only [Sem.run_bind, run_underlying Try.underlying60, Result.andThen_ok]
  simp only [Std.Legacy.Range.forIn_eq_forIn_range', Std.Legacy.Range.size, Nat.sub_zero, Nat.add_sub_cancel, Nat.div_one, List.range'_succ, List.range'_zero, List.forIn_cons, List.forIn_nil]
  simp [run_underlying Try.underlying59, sizeOf, typeInfo, hi, hz1, part, isAgg, h0, h1, h2, h3]
theorem wpList_load_confP {ops : Array Oper} {rest : List Oper} {o : Oper} {a : Act} {w : World} {Q : Exit → Act → World → Prop} (hw : Region.wanted o (yielded ops a.tmps) = true) (x : Operand) (ho : o.op = .load 60 x)
    (g : Nat) (cs ps : List Value) (hx : a.eval x = .pointer (some ⟨g, 3, none⟩)) (hb : Box w g 62 cs) (hp : ∀ j v, ps[j]? = some v → cs[3 + j]? = some v) (hl : ps.length = 16)
    (h : wpList Try.prog ops Q rest (a.put o.dst (.agg ps.toArray)) w) : wpList Try.prog ops Q (o :: rest) a w :=
  wpList_step fun K hK => by
    rw [if_pos hw]
    exact wp_load_mid _ x ho g 3 hx ps _ (fun j v hv => by rw [hb.look (3 + j)]; exact hp j v hv) Try.underlying60 rfl (by rw [hl]; kernel_rfl) (hK _ _ h)
def SameRel (n : Nat) (w : World) (i : Value) (wr : World) : Prop := ∃ j : Nat, j ≤ n ∧ i = .int .i64 j ∧ w.grownBy wr none
theorem same_row (c : ConfP) (a : Option Addr) (n k : Nat) : ∀ j v, ([.int .u8 ((c.p 0 0).toNat : Int), .int .u8 ((c.p 0 1).toNat : Int), .int .u8 ((c.p 0 2).toNat : Int), .int .u8 ((c.p 0 3).toNat : Int), .int .u8 ((c.p 1 0).toNat : Int), .int .u8 ((c.p 1 1).toNat : Int), .int .u8 ((c.p 1 2).toNat : Int), .int .u8 ((c.p 1 3).toNat : Int), .int .u8 ((c.p 2 0).toNat : Int), .int .u8 ((c.p 2 1).toNat : Int), .int .u8 ((c.p 2 2).toNat : Int), .int .u8 ((c.p 2 3).toNat : Int), .int .u8 ((c.p 3 0).toNat : Int), .int .u8 ((c.p 3 1).toNat : Int), .int .u8 ((c.p 3 2).toNat : Int), .int .u8 ((c.p 3 3).toNat : Int)] : List Value)[j]? = some v → ([.int .i64 c.sk, .int .i64 c.wa, .slice a n k, .int .u8 ((c.p 0 0).toNat : Int), .int .u8 ((c.p 0 1).toNat : Int), .int .u8 ((c.p 0 2).toNat : Int), .int .u8 ((c.p 0 3).toNat : Int), .int .u8 ((c.p 1 0).toNat : Int), .int .u8 ((c.p 1 1).toNat : Int), .int .u8 ((c.p 1 2).toNat : Int), .int .u8 ((c.p 1 3).toNat : Int), .int .u8 ((c.p 2 0).toNat : Int), .int .u8 ((c.p 2 1).toNat : Int), .int .u8 ((c.p 2 2).toNat : Int), .int .u8 ((c.p 2 3).toNat : Int), .int .u8 ((c.p 3 0).toNat : Int), .int .u8 ((c.p 3 1).toNat : Int), .int .u8 ((c.p 3 2).toNat : Int), .int .u8 ((c.p 3 3).toNat : Int), .int .i64 c.sg, .int .i64 c.od, .int .i64 c.rt, .int .i64 c.se, .int .i64 c.ca, .int .i64 c.bl, .int .i64 c.bs] : List Value)[3 + j]? = some v := by
  intro j v h
  have hj : j < 16 := by
    have := (List.getElem?_eq_some_iff.1 h).1
    simpa using this
  have : j = 0 ∨ j = 1 ∨ j = 2 ∨ j = 3 ∨ j = 4 ∨ j = 5 ∨ j = 6 ∨ j = 7 ∨ j = 8 ∨ j = 9 ∨ j = 10 ∨ j = 11 ∨ j = 12 ∨ j = 13 ∨ j = 14 ∨ j = 15 := by omega
  rcases this with rfl | rfl | rfl | rfl | rfl | rfl | rfl | rfl | rfl | rfl | rfl | rfl | rfl | rfl | rfl | rfl <;> exact h
end Go.Proofs.Ytomnhgcjdnhijaa
