/-
  Whether of an article all warehouses are named.
-/
import Derived.Test.YtomnhgcjdnhijaaCFunc
namespace Go.Proofs.Ytomnhgcjdnhijaa
open Go.RowKit
set_option maxRecDepth 100000

/-- a row of four numbers, each 0 or 1 -/
def row4 (G : Nat → Bool) : List Value := [.int .i64 (if G 0 then 1 else 0), .int .i64 (if G 1 then 1 else 0), .int .i64 (if G 2 then 1 else 0), .int .i64 (if G 3 then 1 else 0)]
theorem row4_set (G : Nat → Bool) {i : Nat} (hi : i < 4) : (row4 G).set i (.int .i64 1) = row4 (fun j => G j || decide (j = i)) := by
  have : i = 0 ∨ i = 1 ∨ i = 2 ∨ i = 3 := by omega
  rcases this with rfl | rfl | rfl | rfl <;> simp [row4]
theorem row4_get (G : Nat → Bool) {i : Nat} (hi : i < 4) : (row4 G)[i]? = some (.int .i64 (if G i then 1 else 0)) := by
  have : i = 0 ∨ i = 1 ∨ i = 2 ∨ i = 3 := by omega
  rcases this with rfl | rfl | rfl | rfl <;> rfl
/-- the warehouses that are named among the first n -/
def gotF (p : Nat → UInt8) (v : Nat) : Nat → Nat → Bool
  | 0, _ => false
  | n + 1, i => gotF p v n i || (decide ((p n).toNat < v) && decide (i = (p n).toNat))
def namedF (p : Nat → UInt8) (v : Nat) : Bool := (gotF p v v 0 == decide (0 < v)) && (gotF p v v 1 == decide (1 < v)) && (gotF p v v 2 == decide (2 < v)) && (gotF p v v 3 == decide (3 < v))
theorem prio_cell (c : ConfP) (a : Option Addr) (n k : Nat) {s m : Nat} (hs : s < 4) (hm : m < 4) : ([.int .i64 c.sk, .int .i64 c.wa, .slice a n k, .int .u8 ((c.p 0 0).toNat : Int), .int .u8 ((c.p 0 1).toNat : Int), .int .u8 ((c.p 0 2).toNat : Int), .int .u8 ((c.p 0 3).toNat : Int), .int .u8 ((c.p 1 0).toNat : Int), .int .u8 ((c.p 1 1).toNat : Int), .int .u8 ((c.p 1 2).toNat : Int), .int .u8 ((c.p 1 3).toNat : Int), .int .u8 ((c.p 2 0).toNat : Int), .int .u8 ((c.p 2 1).toNat : Int), .int .u8 ((c.p 2 2).toNat : Int), .int .u8 ((c.p 2 3).toNat : Int), .int .u8 ((c.p 3 0).toNat : Int), .int .u8 ((c.p 3 1).toNat : Int), .int .u8 ((c.p 3 2).toNat : Int), .int .u8 ((c.p 3 3).toNat : Int), .int .i64 c.sg, .int .i64 c.od, .int .i64 c.rt, .int .i64 c.se, .int .i64 c.ca, .int .i64 c.bl, .int .i64 c.bs] : List Value)[3 + s * 4 + m]? = some (.int .u8 ((c.p s m).toNat : Int)) := by
  have h1 : s = 0 ∨ s = 1 ∨ s = 2 ∨ s = 3 := by omega
  have h2 : m = 0 ∨ m = 1 ∨ m = 2 ∨ m = 3 := by omega
  rcases h1 with rfl | rfl | rfl | rfl <;> rcases h2 with rfl | rfl | rfl | rfl <;> rfl
theorem info_int4 : (Try.prog.info? 3).map (fun i => (i.zero, i.size, i.bytes)) = some (some (.int .i64 0), 1, 8) := by kernel_rfl
end Go.Proofs.Ytomnhgcjdnhijaa
