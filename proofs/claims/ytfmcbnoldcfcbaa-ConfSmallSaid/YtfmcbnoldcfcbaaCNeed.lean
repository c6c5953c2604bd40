/-
  How much of a volume a configuration needs; its numbers.
-/
import Derived.Test.YtfmcbnoldcfcbaaCBase
import Derived.Deep.MidRow
namespace Go.Proofs.Ytfmcbnoldcfcbaa
open Go.RowKit
set_option maxRecDepth 100000

set_option maxHeartbeats 3200000 in
theorem conf_numbers (c : ConfP) (a : Option Addr) (n k : Nat) (w : World) : Calls Try.prog 51 #[.agg #[.int .i64 c.sk, .int .i64 c.wa, .slice a n k, .int .u8 ((c.p 0 0).toNat : Int), .int .u8 ((c.p 0 1).toNat : Int), .int .u8 ((c.p 0 2).toNat : Int), .int .u8 ((c.p 0 3).toNat : Int), .int .u8 ((c.p 1 0).toNat : Int), .int .u8 ((c.p 1 1).toNat : Int), .int .u8 ((c.p 1 2).toNat : Int), .int .u8 ((c.p 1 3).toNat : Int), .int .u8 ((c.p 2 0).toNat : Int), .int .u8 ((c.p 2 1).toNat : Int), .int .u8 ((c.p 2 2).toNat : Int), .int .u8 ((c.p 2 3).toNat : Int), .int .u8 ((c.p 3 0).toNat : Int), .int .u8 ((c.p 3 1).toNat : Int), .int .u8 ((c.p 3 2).toNat : Int), .int .u8 ((c.p 3 3).toNat : Int), .int .i64 c.sg, .int .i64 c.od, .int .i64 c.rt, .int .i64 c.se, .int .i64 c.ca, .int .i64 c.bl, .int .i64 c.bs]] w fun r w' => r = .returned (.bool (numbersF c)) ∧ w.grownBy w' none := by
  have HB := Lib.hid (fun x lo hi u => conf_between x lo hi u)
  have XL := (Box.new w 49 [.int .i64 c.sk, .int .i64 c.wa, .slice a n k, .int .u8 ((c.p 0 0).toNat : Int), .int .u8 ((c.p 0 1).toNat : Int), .int .u8 ((c.p 0 2).toNat : Int), .int .u8 ((c.p 0 3).toNat : Int), .int .u8 ((c.p 1 0).toNat : Int), .int .u8 ((c.p 1 1).toNat : Int), .int .u8 ((c.p 1 2).toNat : Int), .int .u8 ((c.p 1 3).toNat : Int), .int .u8 ((c.p 2 0).toNat : Int), .int .u8 ((c.p 2 1).toNat : Int), .int .u8 ((c.p 2 2).toNat : Int), .int .u8 ((c.p 2 3).toNat : Int), .int .u8 ((c.p 3 0).toNat : Int), .int .u8 ((c.p 3 1).toNat : Int), .int .u8 ((c.p 3 2).toNat : Int), .int .u8 ((c.p 3 3).toNat : Int), .int .i64 c.sg, .int .i64 c.od, .int .i64 c.rt, .int .i64 c.se, .int .i64 c.ca, .int .i64 c.bl, .int .i64 c.bs] w.heap.size rfl).look
  have HG := Lib.hid (World.grownBy_alloc w (.cells #[.int .i64 c.sk, .int .i64 c.wa, .slice a n k, .int .u8 ((c.p 0 0).toNat : Int), .int .u8 ((c.p 0 1).toNat : Int), .int .u8 ((c.p 0 2).toNat : Int), .int .u8 ((c.p 0 3).toNat : Int), .int .u8 ((c.p 1 0).toNat : Int), .int .u8 ((c.p 1 1).toNat : Int), .int .u8 ((c.p 1 2).toNat : Int), .int .u8 ((c.p 1 3).toNat : Int), .int .u8 ((c.p 2 0).toNat : Int), .int .u8 ((c.p 2 1).toNat : Int), .int .u8 ((c.p 2 2).toNat : Int), .int .u8 ((c.p 2 3).toNat : Int), .int .u8 ((c.p 3 0).toNat : Int), .int .u8 ((c.p 3 1).toNat : Int), .int .u8 ((c.p 3 2).toNat : Int), .int .u8 ((c.p 3 3).toNat : Int), .int .i64 c.sg, .int .i64 c.od, .int .i64 c.rt, .int .i64 c.se, .int .i64 c.ca, .int .i64 c.bl, .int .i64 c.bs] 49) none)
  have hf : ∀ b1 b2 b3 b4 b5 b6 b7 b8 b9 : Bool, btw c.sk 1 4 = b1 → btw c.wa 1 4 = b2 → btw c.sg 1 8 = b3 → btw c.od 1 32 = b4 → btw c.rt 0 4 = b5 → btw c.se 64 4096 = b6 → btw c.ca 1 1048576 = b7 → btw c.bl 64 4096 = b8 → btw c.bs 1 1024 = b9 → numbersF c = (b1 && b2 && b3 && b4 && b5 && b6 && b7 && b8 && b9) := by
    intro b1 b2 b3 b4 b5 b6 b7 b8 b9 h1 h2 h3 h4 h5 h6 h7 h8 h9
    unfold numbersF
    rw [h1, h2, h3, h4, h5, h6, h7, h8, h9]
  obtain ⟨b1, h1⟩ : ∃ b, btw c.sk 1 4 = b := ⟨_, rfl⟩
  obtain ⟨b2, h2⟩ : ∃ b, btw c.wa 1 4 = b := ⟨_, rfl⟩
  obtain ⟨b3, h3⟩ : ∃ b, btw c.sg 1 8 = b := ⟨_, rfl⟩
  obtain ⟨b4, h4⟩ : ∃ b, btw c.od 1 32 = b := ⟨_, rfl⟩
  obtain ⟨b5, h5⟩ : ∃ b, btw c.rt 0 4 = b := ⟨_, rfl⟩
  obtain ⟨b6, h6⟩ : ∃ b, btw c.se 64 4096 = b := ⟨_, rfl⟩
  obtain ⟨b7, h7⟩ : ∃ b, btw c.ca 1 1048576 = b := ⟨_, rfl⟩
  obtain ⟨b8, h8⟩ : ∃ b, btw c.bl 64 4096 = b := ⟨_, rfl⟩
  obtain ⟨b9, h9⟩ : ∃ b, btw c.bs 1 1024 = b := ⟨_, rfl⟩
  rw [hf _ _ _ _ _ _ _ _ _ h1 h2 h3 h4 h5 h6 h7 h8 h9]
  have H1 := Lib.hid (fun u => h1 ▸ conf_between c.sk 1 4 u)
  have H2 := Lib.hid (fun u => h2 ▸ conf_between c.wa 1 4 u)
  have H3 := Lib.hid (fun u => h3 ▸ conf_between c.sg 1 8 u)
  have H4 := Lib.hid (fun u => h4 ▸ conf_between c.od 1 32 u)
  have H5 := Lib.hid (fun u => h5 ▸ conf_between c.rt 0 4 u)
  have H6 := Lib.hid (fun u => h6 ▸ conf_between c.se 64 4096 u)
  have H7 := Lib.hid (fun u => h7 ▸ conf_between c.ca 1 1048576 u)
  have H8 := Lib.hid (fun u => h8 ▸ conf_between c.bl 64 4096 u)
  have H9 := Lib.hid (fun u => h9 ▸ conf_between c.bs 1 1024 u)
  clear h1 h2 h3 h4 h5 h6 h7 h8 h9 hf HB
  go_enter Try.func51, Try.ntmps51
  cases b1
  · go_wp2_with (first | (go_at_call 66; with_reducible refine (H1.out _).mono ?_; rintro r w1 ⟨rfl, rfl⟩))
    go_ret
    exact ⟨rfl, HG.out⟩
  cases b2
  · go_wp2_with (first | (go_at_call 66; with_reducible refine (H1.out _).mono ?_; rintro r w1 ⟨rfl, rfl⟩) | (go_at_call 66; with_reducible refine (H2.out _).mono ?_; rintro r w1 ⟨rfl, rfl⟩))
    go_ret
    exact ⟨rfl, HG.out⟩
  cases b3
  · go_wp2_with (first | (go_at_call 66; with_reducible refine (H1.out _).mono ?_; rintro r w1 ⟨rfl, rfl⟩) | (go_at_call 66; with_reducible refine (H2.out _).mono ?_; rintro r w1 ⟨rfl, rfl⟩) | (go_at_call 66; with_reducible refine (H3.out _).mono ?_; rintro r w1 ⟨rfl, rfl⟩))
    go_ret
    exact ⟨rfl, HG.out⟩
  cases b4
  · go_wp2_with (first | (go_at_call 66; with_reducible refine (H1.out _).mono ?_; rintro r w1 ⟨rfl, rfl⟩) | (go_at_call 66; with_reducible refine (H2.out _).mono ?_; rintro r w1 ⟨rfl, rfl⟩) | (go_at_call 66; with_reducible refine (H3.out _).mono ?_; rintro r w1 ⟨rfl, rfl⟩) | (go_at_call 66; with_reducible refine (H4.out _).mono ?_; rintro r w1 ⟨rfl, rfl⟩))
    go_ret
    exact ⟨rfl, HG.out⟩
  cases b5
  · go_wp2_with (first | (go_at_call 66; with_reducible refine (H1.out _).mono ?_; rintro r w1 ⟨rfl, rfl⟩) | (go_at_call 66; with_reducible refine (H2.out _).mono ?_; rintro r w1 ⟨rfl, rfl⟩) | (go_at_call 66; with_reducible refine (H3.out _).mono ?_; rintro r w1 ⟨rfl, rfl⟩) | (go_at_call 66; with_reducible refine (H4.out _).mono ?_; rintro r w1 ⟨rfl, rfl⟩) | (go_at_call 66; with_reducible refine (H5.out _).mono ?_; rintro r w1 ⟨rfl, rfl⟩))
    go_ret
    exact ⟨rfl, HG.out⟩
  cases b6
  · go_wp2_with (first | (go_at_call 66; with_reducible refine (H1.out _).mono ?_; rintro r w1 ⟨rfl, rfl⟩) | (go_at_call 66; with_reducible refine (H2.out _).mono ?_; rintro r w1 ⟨rfl, rfl⟩) | (go_at_call 66; with_reducible refine (H3.out _).mono ?_; rintro r w1 ⟨rfl, rfl⟩) | (go_at_call 66; with_reducible refine (H4.out _).mono ?_; rintro r w1 ⟨rfl, rfl⟩) | (go_at_call 66; with_reducible refine (H5.out _).mono ?_; rintro r w1 ⟨rfl, rfl⟩) | (go_at_call 66; with_reducible refine (H6.out _).mono ?_; rintro r w1 ⟨rfl, rfl⟩))
    go_ret
    exact ⟨rfl, HG.out⟩
  cases b7
  · go_wp2_with (first | (go_at_call 66; with_reducible refine (H1.out _).mono ?_; rintro r w1 ⟨rfl, rfl⟩) | (go_at_call 66; with_reducible refine (H2.out _).mono ?_; rintro r w1 ⟨rfl, rfl⟩) | (go_at_call 66; with_reducible refine (H3.out _).mono ?_; rintro r w1 ⟨rfl, rfl⟩) | (go_at_call 66; with_reducible refine (H4.out _).mono ?_; rintro r w1 ⟨rfl, rfl⟩) | (go_at_call 66; with_reducible refine (H5.out _).mono ?_; rintro r w1 ⟨rfl, rfl⟩) | (go_at_call 66; with_reducible refine (H6.out _).mono ?_; rintro r w1 ⟨rfl, rfl⟩) | (go_at_call 66; with_reducible refine (H7.out _).mono ?_; rintro r w1 ⟨rfl, rfl⟩))
    go_ret
    exact ⟨rfl, HG.out⟩
  cases b8
  · go_wp2_with (first | (go_at_call 66; with_reducible refine (H1.out _).mono ?_; rintro r w1 ⟨rfl, rfl⟩) | (go_at_call 66; with_reducible refine (H2.out _).mono ?_; rintro r w1 ⟨rfl, rfl⟩) | (go_at_call 66; with_reducible refine (H3.out _).mono ?_; rintro r w1 ⟨rfl, rfl⟩) | (go_at_call 66; with_reducible refine (H4.out _).mono ?_; rintro r w1 ⟨rfl, rfl⟩) | (go_at_call 66; with_reducible refine (H5.out _).mono ?_; rintro r w1 ⟨rfl, rfl⟩) | (go_at_call 66; with_reducible refine (H6.out _).mono ?_; rintro r w1 ⟨rfl, rfl⟩) | (go_at_call 66; with_reducible refine (H7.out _).mono ?_; rintro r w1 ⟨rfl, rfl⟩) | (go_at_call 66; with_reducible refine (H8.out _).mono ?_; rintro r w1 ⟨rfl, rfl⟩))
    go_ret
    exact ⟨rfl, HG.out⟩
  cases b9
  · go_wp2_with (first | (go_at_call 66; with_reducible refine (H1.out _).mono ?_; rintro r w1 ⟨rfl, rfl⟩) | (go_at_call 66; with_reducible refine (H2.out _).mono ?_; rintro r w1 ⟨rfl, rfl⟩) | (go_at_call 66; with_reducible refine (H3.out _).mono ?_; rintro r w1 ⟨rfl, rfl⟩) | (go_at_call 66; with_reducible refine (H4.out _).mono ?_; rintro r w1 ⟨rfl, rfl⟩) | (go_at_call 66; with_reducible refine (H5.out _).mono ?_; rintro r w1 ⟨rfl, rfl⟩) | (go_at_call 66; with_reducible refine (H6.out _).mono ?_; rintro r w1 ⟨rfl, rfl⟩) | (go_at_call 66; with_reducible refine (H7.out _).mono ?_; rintro r w1 ⟨rfl, rfl⟩) | (go_at_call 66; with_reducible refine (H8.out _).mono ?_; rintro r w1 ⟨rfl, rfl⟩) | (go_at_call 66; with_reducible refine (H9.out _).mono ?_; rintro r w1 ⟨rfl, rfl⟩))
    go_ret
    exact ⟨rfl, HG.out⟩
  go_wp2_with (first | (go_at_call 66; with_reducible refine (H1.out _).mono ?_; rintro r w1 ⟨rfl, rfl⟩) | (go_at_call 66; with_reducible refine (H2.out _).mono ?_; rintro r w1 ⟨rfl, rfl⟩) | (go_at_call 66; with_reducible refine (H3.out _).mono ?_; rintro r w1 ⟨rfl, rfl⟩) | (go_at_call 66; with_reducible refine (H4.out _).mono ?_; rintro r w1 ⟨rfl, rfl⟩) | (go_at_call 66; with_reducible refine (H5.out _).mono ?_; rintro r w1 ⟨rfl, rfl⟩) | (go_at_call 66; with_reducible refine (H6.out _).mono ?_; rintro r w1 ⟨rfl, rfl⟩) | (go_at_call 66; with_reducible refine (H7.out _).mono ?_; rintro r w1 ⟨rfl, rfl⟩) | (go_at_call 66; with_reducible refine (H8.out _).mono ?_; rintro r w1 ⟨rfl, rfl⟩) | (go_at_call 66; with_reducible refine (H9.out _).mono ?_; rintro r w1 ⟨rfl, rfl⟩))
  go_ret
  exact ⟨rfl, HG.out⟩

theorem piecesF_le (n : Nat) (z : Int) : piecesF n z ≤ n := by
  unfold piecesF
  split
  · exact Nat.zero_le _
  · rename_i h
    obtain ⟨m, rfl⟩ : ∃ m : Nat, z = (m : Int) := ⟨z.toNat, by omega⟩
    simp only [Int.toNat_natCast]
    have hm : 1 ≤ m := by omega
    rw [Nat.div_le_iff_le_mul_add_pred (by omega)]
    have : n ≤ m * n := Nat.le_mul_of_pos_left n (by omega)
    omega
theorem countF_le (s v : Int) : countF s v ≤ 40 := by
  unfold countF
  split
  · rename_i h
    simp [fineF, btw] at h
    have h1 : s.toNat ≤ 4 := by omega
    have h2 : v.toNat ≤ 4 := by omega
    have : 2 * s.toNat * v.toNat ≤ 32 := Nat.le_trans (Nat.mul_le_mul (Nat.mul_le_mul_left 2 h1) h2) (by decide)
    omega
  · decide
theorem needs_le (c : ConfP) : headsF c ≤ 40 ∧ tablesF c ≤ 12932 := ⟨Nat.le_trans (piecesF_le _ _) (countF_le _ _), Nat.le_trans (piecesF_le _ _) (mostF_le _ _).2⟩
def i64 (z : Int) : Prop := -9223372036854775808 ≤ z ∧ z ≤ 9223372036854775807

theorem info_conf : (Try.prog.info? 49).map (·.size) = some 26 := by kernel_rfl
theorem range_conf {w : World} {g : Nat} {cs : List Value} (hb : Box w g 49 cs) : w.rangeAt g 0 cs := fun j v hv => by rw [Nat.zero_add, hb.look j]; exact hv
/-- a configuration is read whole (N: its cells, a letter: a numeral is laid open cell by cell) -/
theorem load_row (u : World) (g : Nat) (cs : List Value) (N : Nat) (hN : cs.length = N) (hr : u.rangeAt g 0 cs) : (loadCellsFrom ⟨g, 0, none⟩ 0 N #[]).run Try.prog u = .ok cs.toArray u := by
  have := run_loadCells_list (P := Try.prog) u ⟨g, 0, none⟩ cs (fun j v hv => by rw [Addr.add_mid]; exact hr j v hv)
  rw [hN] at this
  exact this
theorem wrap_64 (x : Int) : wrap64 x = IntKind.i64.wrap x := by rw [IntKind.wrap_i64]; unfold wrap64; rfl
set_option maxHeartbeats 3200000 in
theorem conf_heads (c : ConfP) (a : Option Addr) (n k : Nat) (w : World) (hb : i64 c.bl) : Calls Try.prog 29 #[.agg #[.int .i64 c.sk, .int .i64 c.wa, .slice a n k, .int .u8 ((c.p 0 0).toNat : Int), .int .u8 ((c.p 0 1).toNat : Int), .int .u8 ((c.p 0 2).toNat : Int), .int .u8 ((c.p 0 3).toNat : Int), .int .u8 ((c.p 1 0).toNat : Int), .int .u8 ((c.p 1 1).toNat : Int), .int .u8 ((c.p 1 2).toNat : Int), .int .u8 ((c.p 1 3).toNat : Int), .int .u8 ((c.p 2 0).toNat : Int), .int .u8 ((c.p 2 1).toNat : Int), .int .u8 ((c.p 2 2).toNat : Int), .int .u8 ((c.p 2 3).toNat : Int), .int .u8 ((c.p 3 0).toNat : Int), .int .u8 ((c.p 3 1).toNat : Int), .int .u8 ((c.p 3 2).toNat : Int), .int .u8 ((c.p 3 3).toNat : Int), .int .i64 c.sg, .int .i64 c.od, .int .i64 c.rt, .int .i64 c.se, .int .i64 c.ca, .int .i64 c.bl, .int .i64 c.bs]] w fun r w' => r = .returned (.int .i64 (headsF c : Int)) ∧ w.grownBy w' none := by
  obtain ⟨m, hm⟩ : ∃ m : Nat, m = c.bl.toNat := ⟨_, rfl⟩
  have m1 := max_nat c.bl m hm
  have HC := Lib.hid (fun u => key_count c.sk c.wa u)
  have hm2 : m ≤ 9223372036854775807 := by rw [hm]; have := hb.2; omega
  have hp : headsF c = piecesF (countF c.sk c.wa) (m / 16 : Nat) := by unfold headsF; rw [hm]
  have hle := countF_le c.sk c.wa
  rw [hp]
  generalize countF c.sk c.wa = q at *
  have hq : (m : Int).tdiv 16 = ((m / 16 : Nat) : Int) := rfl
  have hwr : wrap64 ((m : Int) / 16) = ((m / 16 : Nat) : Int) := by
    unfold wrap64
    omega
  have hz : ((m / 16 : Nat) : Int) = (m : Int) / 16 := rfl
  have HP := Lib.hid (fun u => conf_pieces q ((m / 16 : Nat) : Int) u (by omega) (by omega))
  obtain ⟨y, hy⟩ : ∃ y, m / 16 = y := ⟨_, rfl⟩
  rw [hy] at HP hz hwr ⊢
  obtain ⟨x, hx⟩ : ∃ x, piecesF q (y : Int) = x := ⟨_, rfl⟩
  rw [hx] at HP ⊢
  have XL := look_later (Box.new w 49 [.int .i64 c.sk, .int .i64 c.wa, .slice a n k, .int .u8 ((c.p 0 0).toNat : Int), .int .u8 ((c.p 0 1).toNat : Int), .int .u8 ((c.p 0 2).toNat : Int), .int .u8 ((c.p 0 3).toNat : Int), .int .u8 ((c.p 1 0).toNat : Int), .int .u8 ((c.p 1 1).toNat : Int), .int .u8 ((c.p 1 2).toNat : Int), .int .u8 ((c.p 1 3).toNat : Int), .int .u8 ((c.p 2 0).toNat : Int), .int .u8 ((c.p 2 1).toNat : Int), .int .u8 ((c.p 2 2).toNat : Int), .int .u8 ((c.p 2 3).toNat : Int), .int .u8 ((c.p 3 0).toNat : Int), .int .u8 ((c.p 3 1).toNat : Int), .int .u8 ((c.p 3 2).toNat : Int), .int .u8 ((c.p 3 3).toNat : Int), .int .i64 c.sg, .int .i64 c.od, .int .i64 c.rt, .int .i64 c.se, .int .i64 c.ca, .int .i64 c.bl, .int .i64 c.bs] w.heap.size rfl)
  have HG := Lib.hid (World.grownBy_alloc w (.cells #[.int .i64 c.sk, .int .i64 c.wa, .slice a n k, .int .u8 ((c.p 0 0).toNat : Int), .int .u8 ((c.p 0 1).toNat : Int), .int .u8 ((c.p 0 2).toNat : Int), .int .u8 ((c.p 0 3).toNat : Int), .int .u8 ((c.p 1 0).toNat : Int), .int .u8 ((c.p 1 1).toNat : Int), .int .u8 ((c.p 1 2).toNat : Int), .int .u8 ((c.p 1 3).toNat : Int), .int .u8 ((c.p 2 0).toNat : Int), .int .u8 ((c.p 2 1).toNat : Int), .int .u8 ((c.p 2 2).toNat : Int), .int .u8 ((c.p 2 3).toNat : Int), .int .u8 ((c.p 3 0).toNat : Int), .int .u8 ((c.p 3 1).toNat : Int), .int .u8 ((c.p 3 2).toNat : Int), .int .u8 ((c.p 3 3).toNat : Int), .int .i64 c.sg, .int .i64 c.od, .int .i64 c.rt, .int .i64 c.se, .int .i64 c.ca, .int .i64 c.bl, .int .i64 c.bs] 49) none)
  have hwr2 := (wrap_64 ((m : Int) / 16)).symm.trans hwr
  clear hm hp hx hy hq hb hz
  go_enter Try.func29, Try.ntmps29
  go_wp2_with fail
  generalize w.alloc (.cells #[.int .i64 c.sk, .int .i64 c.wa, .slice a n k, .int .u8 ((c.p 0 0).toNat : Int), .int .u8 ((c.p 0 1).toNat : Int), .int .u8 ((c.p 0 2).toNat : Int), .int .u8 ((c.p 0 3).toNat : Int), .int .u8 ((c.p 1 0).toNat : Int), .int .u8 ((c.p 1 1).toNat : Int), .int .u8 ((c.p 1 2).toNat : Int), .int .u8 ((c.p 1 3).toNat : Int), .int .u8 ((c.p 2 0).toNat : Int), .int .u8 ((c.p 2 1).toNat : Int), .int .u8 ((c.p 2 2).toNat : Int), .int .u8 ((c.p 2 3).toNat : Int), .int .u8 ((c.p 3 0).toNat : Int), .int .u8 ((c.p 3 1).toNat : Int), .int .u8 ((c.p 3 2).toNat : Int), .int .u8 ((c.p 3 3).toNat : Int), .int .i64 c.sg, .int .i64 c.od, .int .i64 c.rt, .int .i64 c.se, .int .i64 c.ca, .int .i64 c.bl, .int .i64 c.bs] 49) = w1 at *
  have hS0 : w1.grownBy w1.drew none := grown_drew1 _
  have hS1 : w1.grownBy w1 none := World.grownBy.refl _ _
  go_region_held_law (fun w' => w1.grownBy w' none) (with_reducible (first | assumption | exact keepA' (by assumption))) (first
    | (go_at_call 61; (with_reducible refine (HC.out _).mono ?_); rintro r w2 ⟨rfl, rfl⟩)
    | (go_at_call 60; (with_reducible refine (HP.out _).mono ?_); rintro r w2 ⟨rfl, rfl⟩))
  all_goals (
    go_wp2_with fail
    go_ret
    exact ⟨rfl, grown_trans HG.out (by with_reducible assumption)⟩)
set_option maxHeartbeats 3200000 in
theorem conf_tables (c : ConfP) (a : Option Addr) (n k : Nat) (w : World) : Calls Try.prog 63 #[.agg #[.int .i64 c.sk, .int .i64 c.wa, .slice a n k, .int .u8 ((c.p 0 0).toNat : Int), .int .u8 ((c.p 0 1).toNat : Int), .int .u8 ((c.p 0 2).toNat : Int), .int .u8 ((c.p 0 3).toNat : Int), .int .u8 ((c.p 1 0).toNat : Int), .int .u8 ((c.p 1 1).toNat : Int), .int .u8 ((c.p 1 2).toNat : Int), .int .u8 ((c.p 1 3).toNat : Int), .int .u8 ((c.p 2 0).toNat : Int), .int .u8 ((c.p 2 1).toNat : Int), .int .u8 ((c.p 2 2).toNat : Int), .int .u8 ((c.p 2 3).toNat : Int), .int .u8 ((c.p 3 0).toNat : Int), .int .u8 ((c.p 3 1).toNat : Int), .int .u8 ((c.p 3 2).toNat : Int), .int .u8 ((c.p 3 3).toNat : Int), .int .i64 c.sg, .int .i64 c.od, .int .i64 c.rt, .int .i64 c.se, .int .i64 c.ca, .int .i64 c.bl, .int .i64 c.bs]] w fun r w' => r = .returned (.int .i64 (tablesF c : Int)) ∧ w.grownBy w' none := by
  have HM := Lib.hid (fun u => conf_most c.sg c.od u)
  obtain ⟨h12, hle⟩ := mostF_le c.sg c.od
  have ht : tablesF c = piecesF (mostF c.sg c.od) c.bl := rfl
  rw [ht]
  generalize mostF c.sg c.od = q at *
  have XL := (Box.new w 49 [.int .i64 c.sk, .int .i64 c.wa, .slice a n k, .int .u8 ((c.p 0 0).toNat : Int), .int .u8 ((c.p 0 1).toNat : Int), .int .u8 ((c.p 0 2).toNat : Int), .int .u8 ((c.p 0 3).toNat : Int), .int .u8 ((c.p 1 0).toNat : Int), .int .u8 ((c.p 1 1).toNat : Int), .int .u8 ((c.p 1 2).toNat : Int), .int .u8 ((c.p 1 3).toNat : Int), .int .u8 ((c.p 2 0).toNat : Int), .int .u8 ((c.p 2 1).toNat : Int), .int .u8 ((c.p 2 2).toNat : Int), .int .u8 ((c.p 2 3).toNat : Int), .int .u8 ((c.p 3 0).toNat : Int), .int .u8 ((c.p 3 1).toNat : Int), .int .u8 ((c.p 3 2).toNat : Int), .int .u8 ((c.p 3 3).toNat : Int), .int .i64 c.sg, .int .i64 c.od, .int .i64 c.rt, .int .i64 c.se, .int .i64 c.ca, .int .i64 c.bl, .int .i64 c.bs] w.heap.size rfl).look
  have HG := Lib.hid (World.grownBy_alloc w (.cells #[.int .i64 c.sk, .int .i64 c.wa, .slice a n k, .int .u8 ((c.p 0 0).toNat : Int), .int .u8 ((c.p 0 1).toNat : Int), .int .u8 ((c.p 0 2).toNat : Int), .int .u8 ((c.p 0 3).toNat : Int), .int .u8 ((c.p 1 0).toNat : Int), .int .u8 ((c.p 1 1).toNat : Int), .int .u8 ((c.p 1 2).toNat : Int), .int .u8 ((c.p 1 3).toNat : Int), .int .u8 ((c.p 2 0).toNat : Int), .int .u8 ((c.p 2 1).toNat : Int), .int .u8 ((c.p 2 2).toNat : Int), .int .u8 ((c.p 2 3).toNat : Int), .int .u8 ((c.p 3 0).toNat : Int), .int .u8 ((c.p 3 1).toNat : Int), .int .u8 ((c.p 3 2).toNat : Int), .int .u8 ((c.p 3 3).toNat : Int), .int .i64 c.sg, .int .i64 c.od, .int .i64 c.rt, .int .i64 c.se, .int .i64 c.ca, .int .i64 c.bl, .int .i64 c.bs] 49) none)
  clear ht
  by_cases hb : (q : Int) ≤ c.bl
  · have h1 : piecesF q c.bl = 1 := by
      obtain ⟨m, hm⟩ : ∃ m : Nat, c.bl = (m : Int) := ⟨c.bl.toNat, by omega⟩
      unfold piecesF
      rw [hm, if_neg (by omega)]
      simp only [Int.toNat_natCast]
      exact Nat.div_eq_of_lt_le (by omega) (by omega)
    rw [h1]
    clear h1
    go_enter Try.func63, Try.ntmps63
    go_wp2_with (go_at_call 35; with_reducible refine (HM.out _).mono ?_; rintro r w1 ⟨rfl, rfl⟩)
    go_ret
    exact ⟨rfl, HG.out⟩
  · have HP := Lib.hid (fun u => conf_pieces q c.bl u (by omega) (by omega))
    go_enter Try.func63, Try.ntmps63
    go_wp2_with (first | (go_at_call 35; with_reducible refine (HM.out _).mono ?_; rintro r w1 ⟨rfl, rfl⟩) | (go_at_call 60; with_reducible refine (HP.out _).mono ?_; rintro r w1 ⟨rfl, rfl⟩))
    go_ret
    exact ⟨rfl, HG.out⟩
set_option maxHeartbeats 3200000 in
theorem conf_area (c : ConfP) (a : Option Addr) (n k : Nat) (w : World) (hb : i64 c.bl) : Calls Try.prog 31 #[.agg #[.int .i64 c.sk, .int .i64 c.wa, .slice a n k, .int .u8 ((c.p 0 0).toNat : Int), .int .u8 ((c.p 0 1).toNat : Int), .int .u8 ((c.p 0 2).toNat : Int), .int .u8 ((c.p 0 3).toNat : Int), .int .u8 ((c.p 1 0).toNat : Int), .int .u8 ((c.p 1 1).toNat : Int), .int .u8 ((c.p 1 2).toNat : Int), .int .u8 ((c.p 1 3).toNat : Int), .int .u8 ((c.p 2 0).toNat : Int), .int .u8 ((c.p 2 1).toNat : Int), .int .u8 ((c.p 2 2).toNat : Int), .int .u8 ((c.p 2 3).toNat : Int), .int .u8 ((c.p 3 0).toNat : Int), .int .u8 ((c.p 3 1).toNat : Int), .int .u8 ((c.p 3 2).toNat : Int), .int .u8 ((c.p 3 3).toNat : Int), .int .i64 c.sg, .int .i64 c.od, .int .i64 c.rt, .int .i64 c.se, .int .i64 c.ca, .int .i64 c.bl, .int .i64 c.bs]] w fun r w' => r = .returned (.int .i64 (areaF c : Int)) ∧ w.grownBy w' none := by
  have HH := Lib.hid (fun u => conf_heads c a n k u hb)
  have HT := Lib.hid (fun u => conf_tables c a n k u)
  obtain ⟨h1, h2⟩ := needs_le c
  have ht : areaF c = headsF c + tablesF c := rfl
  rw [ht]
  generalize headsF c = x at *
  generalize tablesF c = y at *
  have HWR := Lib.hid (show IntKind.i64.wrap ((x : Int) + (y : Int)) = ((x + y : Nat) : Int) by rw [← wrap_64]; unfold wrap64; omega)
  have hbx := Box.new w 49 [.int .i64 c.sk, .int .i64 c.wa, .slice a n k, .int .u8 ((c.p 0 0).toNat : Int), .int .u8 ((c.p 0 1).toNat : Int), .int .u8 ((c.p 0 2).toNat : Int), .int .u8 ((c.p 0 3).toNat : Int), .int .u8 ((c.p 1 0).toNat : Int), .int .u8 ((c.p 1 1).toNat : Int), .int .u8 ((c.p 1 2).toNat : Int), .int .u8 ((c.p 1 3).toNat : Int), .int .u8 ((c.p 2 0).toNat : Int), .int .u8 ((c.p 2 1).toNat : Int), .int .u8 ((c.p 2 2).toNat : Int), .int .u8 ((c.p 2 3).toNat : Int), .int .u8 ((c.p 3 0).toNat : Int), .int .u8 ((c.p 3 1).toNat : Int), .int .u8 ((c.p 3 2).toNat : Int), .int .u8 ((c.p 3 3).toNat : Int), .int .i64 c.sg, .int .i64 c.od, .int .i64 c.rt, .int .i64 c.se, .int .i64 c.ca, .int .i64 c.bl, .int .i64 c.bs] w.heap.size rfl
  have hlf := fun (N : Nat) (hN : N = 26) u (hg : (w.alloc (.cells #[.int .i64 c.sk, .int .i64 c.wa, .slice a n k, .int .u8 ((c.p 0 0).toNat : Int), .int .u8 ((c.p 0 1).toNat : Int), .int .u8 ((c.p 0 2).toNat : Int), .int .u8 ((c.p 0 3).toNat : Int), .int .u8 ((c.p 1 0).toNat : Int), .int .u8 ((c.p 1 1).toNat : Int), .int .u8 ((c.p 1 2).toNat : Int), .int .u8 ((c.p 1 3).toNat : Int), .int .u8 ((c.p 2 0).toNat : Int), .int .u8 ((c.p 2 1).toNat : Int), .int .u8 ((c.p 2 2).toNat : Int), .int .u8 ((c.p 2 3).toNat : Int), .int .u8 ((c.p 3 0).toNat : Int), .int .u8 ((c.p 3 1).toNat : Int), .int .u8 ((c.p 3 2).toNat : Int), .int .u8 ((c.p 3 3).toNat : Int), .int .i64 c.sg, .int .i64 c.od, .int .i64 c.rt, .int .i64 c.se, .int .i64 c.ca, .int .i64 c.bl, .int .i64 c.bs] 49)).grownBy u none) => load_row u w.heap.size [.int .i64 c.sk, .int .i64 c.wa, .slice a n k, .int .u8 ((c.p 0 0).toNat : Int), .int .u8 ((c.p 0 1).toNat : Int), .int .u8 ((c.p 0 2).toNat : Int), .int .u8 ((c.p 0 3).toNat : Int), .int .u8 ((c.p 1 0).toNat : Int), .int .u8 ((c.p 1 1).toNat : Int), .int .u8 ((c.p 1 2).toNat : Int), .int .u8 ((c.p 1 3).toNat : Int), .int .u8 ((c.p 2 0).toNat : Int), .int .u8 ((c.p 2 1).toNat : Int), .int .u8 ((c.p 2 2).toNat : Int), .int .u8 ((c.p 2 3).toNat : Int), .int .u8 ((c.p 3 0).toNat : Int), .int .u8 ((c.p 3 1).toNat : Int), .int .u8 ((c.p 3 2).toNat : Int), .int .u8 ((c.p 3 3).toNat : Int), .int .i64 c.sg, .int .i64 c.od, .int .i64 c.rt, .int .i64 c.se, .int .i64 c.ca, .int .i64 c.bl, .int .i64 c.bs] N (by rw [hN]; rfl) (range_conf (hbx.grown hg))
  have HLF := Lib.hid hlf
  clear hbx hlf
  have HG := Lib.hid (World.grownBy_alloc w (.cells #[.int .i64 c.sk, .int .i64 c.wa, .slice a n k, .int .u8 ((c.p 0 0).toNat : Int), .int .u8 ((c.p 0 1).toNat : Int), .int .u8 ((c.p 0 2).toNat : Int), .int .u8 ((c.p 0 3).toNat : Int), .int .u8 ((c.p 1 0).toNat : Int), .int .u8 ((c.p 1 1).toNat : Int), .int .u8 ((c.p 1 2).toNat : Int), .int .u8 ((c.p 1 3).toNat : Int), .int .u8 ((c.p 2 0).toNat : Int), .int .u8 ((c.p 2 1).toNat : Int), .int .u8 ((c.p 2 2).toNat : Int), .int .u8 ((c.p 2 3).toNat : Int), .int .u8 ((c.p 3 0).toNat : Int), .int .u8 ((c.p 3 1).toNat : Int), .int .u8 ((c.p 3 2).toNat : Int), .int .u8 ((c.p 3 3).toNat : Int), .int .i64 c.sg, .int .i64 c.od, .int .i64 c.rt, .int .i64 c.se, .int .i64 c.ca, .int .i64 c.bl, .int .i64 c.bs] 49) none)
  clear ht hb
  go_enter Try.func31, Try.ntmps31
  go_wp2_with fail
  generalize w.alloc (.cells #[.int .i64 c.sk, .int .i64 c.wa, .slice a n k, .int .u8 ((c.p 0 0).toNat : Int), .int .u8 ((c.p 0 1).toNat : Int), .int .u8 ((c.p 0 2).toNat : Int), .int .u8 ((c.p 0 3).toNat : Int), .int .u8 ((c.p 1 0).toNat : Int), .int .u8 ((c.p 1 1).toNat : Int), .int .u8 ((c.p 1 2).toNat : Int), .int .u8 ((c.p 1 3).toNat : Int), .int .u8 ((c.p 2 0).toNat : Int), .int .u8 ((c.p 2 1).toNat : Int), .int .u8 ((c.p 2 2).toNat : Int), .int .u8 ((c.p 2 3).toNat : Int), .int .u8 ((c.p 3 0).toNat : Int), .int .u8 ((c.p 3 1).toNat : Int), .int .u8 ((c.p 3 2).toNat : Int), .int .u8 ((c.p 3 3).toNat : Int), .int .i64 c.sg, .int .i64 c.od, .int .i64 c.rt, .int .i64 c.se, .int .i64 c.ca, .int .i64 c.bl, .int .i64 c.bs] 49) = w1 at *
  obtain ⟨N, hN⟩ : ∃ N : Nat, N = 26 := ⟨_, rfl⟩
  have ld := HLF.out N hN
  obtain ⟨T, hT⟩ : ∃ T : TypeId, T = 49 := ⟨_, rfl⟩
  have t1 : ∀ u, (isAgg T).run Try.prog u = .ok true u := fun u => by rw [hT]; exact Try.isAgg49 u
  have t2 : ∀ u, (sizeOf T).run Try.prog u = .ok N u := fun u => by rw [hT, hN]; exact Try.sizeOf49 u
  rw [← hT]
  have HTT := Lib.hid hT; have HNN := Lib.hid hN
  clear hT hN
  have hS0 : w1.grownBy w1.drew none := grown_drew1 _
  have hS1 : w1.grownBy w1 none := World.grownBy.refl _ _
  go_region_held_law (fun w' => w1.grownBy w' none) (with_reducible (first | assumption | exact keepA' (by assumption))) (first
    | (go_at_call 29; (with_reducible refine (HH.out _).mono ?_); rintro r w2 ⟨rfl, hg⟩; have hSa := growT hg (by with_reducible assumption))
    | (go_at_call 63; (with_reducible refine (HT.out _).mono ?_); rintro r w2 ⟨rfl, hg⟩; have hSb := growT hg (by with_reducible assumption)))
  all_goals (
    go_wp2_with fail
    go_ret
    exact ⟨ret_i64 HWR.out, grown_trans HG.out (by with_reducible assumption)⟩)
set_option maxHeartbeats 3200000 in
theorem conf_need (c : ConfP) (a : Option Addr) (n k : Nat) (w : World) (hb : i64 c.bl) : Calls Try.prog 33 #[.agg #[.int .i64 c.sk, .int .i64 c.wa, .slice a n k, .int .u8 ((c.p 0 0).toNat : Int), .int .u8 ((c.p 0 1).toNat : Int), .int .u8 ((c.p 0 2).toNat : Int), .int .u8 ((c.p 0 3).toNat : Int), .int .u8 ((c.p 1 0).toNat : Int), .int .u8 ((c.p 1 1).toNat : Int), .int .u8 ((c.p 1 2).toNat : Int), .int .u8 ((c.p 1 3).toNat : Int), .int .u8 ((c.p 2 0).toNat : Int), .int .u8 ((c.p 2 1).toNat : Int), .int .u8 ((c.p 2 2).toNat : Int), .int .u8 ((c.p 2 3).toNat : Int), .int .u8 ((c.p 3 0).toNat : Int), .int .u8 ((c.p 3 1).toNat : Int), .int .u8 ((c.p 3 2).toNat : Int), .int .u8 ((c.p 3 3).toNat : Int), .int .i64 c.sg, .int .i64 c.od, .int .i64 c.rt, .int .i64 c.se, .int .i64 c.ca, .int .i64 c.bl, .int .i64 c.bs]] w fun r w' => r = .returned (.int .i64 (needF c : Int)) ∧ w.grownBy w' none := by
  have HH := Lib.hid (fun u => conf_area c a n k u hb)
  have h0 := needs_le c
  have h1 : areaF c ≤ 20000 := by unfold areaF; omega
  have ht : needF c = 2 * areaF c + 2 := rfl
  rw [ht]
  generalize areaF c = x at *
  have HBX := Lib.hid (range_conf (Box.new w 49 [.int .i64 c.sk, .int .i64 c.wa, .slice a n k, .int .u8 ((c.p 0 0).toNat : Int), .int .u8 ((c.p 0 1).toNat : Int), .int .u8 ((c.p 0 2).toNat : Int), .int .u8 ((c.p 0 3).toNat : Int), .int .u8 ((c.p 1 0).toNat : Int), .int .u8 ((c.p 1 1).toNat : Int), .int .u8 ((c.p 1 2).toNat : Int), .int .u8 ((c.p 1 3).toNat : Int), .int .u8 ((c.p 2 0).toNat : Int), .int .u8 ((c.p 2 1).toNat : Int), .int .u8 ((c.p 2 2).toNat : Int), .int .u8 ((c.p 2 3).toNat : Int), .int .u8 ((c.p 3 0).toNat : Int), .int .u8 ((c.p 3 1).toNat : Int), .int .u8 ((c.p 3 2).toNat : Int), .int .u8 ((c.p 3 3).toNat : Int), .int .i64 c.sg, .int .i64 c.od, .int .i64 c.rt, .int .i64 c.se, .int .i64 c.ca, .int .i64 c.bl, .int .i64 c.bs] w.heap.size rfl))
  have HG := Lib.hid (World.grownBy_alloc w (.cells #[.int .i64 c.sk, .int .i64 c.wa, .slice a n k, .int .u8 ((c.p 0 0).toNat : Int), .int .u8 ((c.p 0 1).toNat : Int), .int .u8 ((c.p 0 2).toNat : Int), .int .u8 ((c.p 0 3).toNat : Int), .int .u8 ((c.p 1 0).toNat : Int), .int .u8 ((c.p 1 1).toNat : Int), .int .u8 ((c.p 1 2).toNat : Int), .int .u8 ((c.p 1 3).toNat : Int), .int .u8 ((c.p 2 0).toNat : Int), .int .u8 ((c.p 2 1).toNat : Int), .int .u8 ((c.p 2 2).toNat : Int), .int .u8 ((c.p 2 3).toNat : Int), .int .u8 ((c.p 3 0).toNat : Int), .int .u8 ((c.p 3 1).toNat : Int), .int .u8 ((c.p 3 2).toNat : Int), .int .u8 ((c.p 3 3).toNat : Int), .int .i64 c.sg, .int .i64 c.od, .int .i64 c.rt, .int .i64 c.se, .int .i64 c.ca, .int .i64 c.bl, .int .i64 c.bs] 49) none)
  clear ht hb h0
  go_enter Try.func33, Try.ntmps33
  go_wp2_with (refine wpList_load_mid (op := ⟨some 3, _, _, _, _, _⟩) rfl 49 _ rfl w.heap.size 0 rfl [.int .i64 c.sk, .int .i64 c.wa, .slice a n k, .int .u8 ((c.p 0 0).toNat : Int), .int .u8 ((c.p 0 1).toNat : Int), .int .u8 ((c.p 0 2).toNat : Int), .int .u8 ((c.p 0 3).toNat : Int), .int .u8 ((c.p 1 0).toNat : Int), .int .u8 ((c.p 1 1).toNat : Int), .int .u8 ((c.p 1 2).toNat : Int), .int .u8 ((c.p 1 3).toNat : Int), .int .u8 ((c.p 2 0).toNat : Int), .int .u8 ((c.p 2 1).toNat : Int), .int .u8 ((c.p 2 2).toNat : Int), .int .u8 ((c.p 2 3).toNat : Int), .int .u8 ((c.p 3 0).toNat : Int), .int .u8 ((c.p 3 1).toNat : Int), .int .u8 ((c.p 3 2).toNat : Int), .int .u8 ((c.p 3 3).toNat : Int), .int .i64 c.sg, .int .i64 c.od, .int .i64 c.rt, .int .i64 c.se, .int .i64 c.ca, .int .i64 c.bl, .int .i64 c.bs] _ HBX.out Try.underlying49 rfl info_conf ?_)
  go_wp2_with fail
  refine (HH.out _).mono ?_
  rintro r w2 ⟨rfl, hg⟩
  have HG2 := Lib.hid (grown_trans HG.out hg)
  clear hg
  go_wp2_with fail
  go_ret
  exact ⟨rfl, HG2.out⟩

end Go.Proofs.Ytfmcbnoldcfcbaa
