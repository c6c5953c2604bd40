/-
  How much of a volume a configuration needs; its numbers.
-/
import Derived.Test.YtomnhgcjdnhijaaCBase
import Derived.Deep.MidRow
namespace Go.Proofs.Ytomnhgcjdnhijaa
open Go.RowKit
set_option maxRecDepth 100000

theorem piecesF_le (n : Nat) (z : Int) : piecesF n z ≤ n := by
  unfold piecesF
  split
  · exact Nat.zero_le _
  · rename_i h
    obtain ⟨m, rfl⟩ : ∃ m : Nat, z = (m : Int) := ⟨z.toNat, by omega⟩
    simp only [Int.toNat_natCast]
    have hm : 1 ≤ m := by omega
    rw [Nat.div_le_iff_le_mul_add_pred (by omega)]
    have : n ≤ m * n := Nat.le_mul_of_pos_left n (by omega)
    omega
theorem countF_le (s v : Int) : countF s v ≤ 40 := by
  unfold countF
  split
  · rename_i h
    simp [fineF, btw] at h
    have h1 : s.toNat ≤ 4 := by omega
    have h2 : v.toNat ≤ 4 := by omega
    have : 2 * s.toNat * v.toNat ≤ 32 := Nat.le_trans (Nat.mul_le_mul (Nat.mul_le_mul_left 2 h1) h2) (by decide)
    omega
  · decide
theorem needs_le (c : ConfP) : headsF c ≤ 40 ∧ tablesF c ≤ 12932 := ⟨Nat.le_trans (piecesF_le _ _) (countF_le _ _), Nat.le_trans (piecesF_le _ _) (mostF_le _ _).2⟩
def i64 (z : Int) : Prop := -9223372036854775808 ≤ z ∧ z ≤ 9223372036854775807

theorem info_conf : (Try.prog.info? 62).map (·.size) = some 26 := by kernel_rfl
theorem range_conf {w : World} {g : Nat} {cs : List Value} (hb : Box w g 62 cs) : w.rangeAt g 0 cs := fun j v hv => by rw [Nat.zero_add, hb.look j]; exact hv
/-- a configuration is read whole (N: its cells, a letter: a numeral is laid open cell by cell) -/
theorem load_row (u : World) (g : Nat) (cs : List Value) (N : Nat) (hN : cs.length = N) (hr : u.rangeAt g 0 cs) : (loadCellsFrom ⟨g, 0, none⟩ 0 N #[]).run Try.prog u = .ok cs.toArray u := by
  have := run_loadCells_list (P := Try.prog) u ⟨g, 0, none⟩ cs (fun j v hv => by rw [Addr.add_mid]; exact hr j v hv)
  rw [hN] at this
  exact this
theorem wrap_64 (x : Int) : wrap64 x = IntKind.i64.wrap x := by rw [IntKind.wrap_i64]; unfold wrap64; rfl
end Go.Proofs.Ytomnhgcjdnhijaa
