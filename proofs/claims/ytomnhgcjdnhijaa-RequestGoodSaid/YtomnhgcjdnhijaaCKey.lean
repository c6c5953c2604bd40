/-
  Keys: lists of them in memory; all keys, by the document.
-/
import Derived.Test.YtomnhgcjdnhijaaCNeed
namespace Go.Proofs.Ytomnhgcjdnhijaa
open Go.RowKit
set_option maxRecDepth 100000

theorem info_key : (Try.prog.info? 96).map (fun i => (i.zero, i.size, i.bytes)) = some (some (.agg #[.int .u8 0, .int .u8 0, .int .u8 0]), 3, 3) := by kernel_rfl
def keyCells (k : KeyP) : List Value := [.int .u8 (k.1.toNat : Int), .int .u8 (k.2.1.toNat : Int), .int .u8 (k.2.2.toNat : Int)]
def KeyAt (w : World) (a : Option Addr) (i : Nat) (k : KeyP) : Prop :=
  ∃ b o, a = some ⟨b, o, none⟩ ∧ w.cell? ⟨b, o + i * 3, none⟩ = some (.int .u8 (k.1.toNat : Int)) ∧ w.cell? ⟨b, o + i * 3 + 1, none⟩ = some (.int .u8 (k.2.1.toNat : Int)) ∧ w.cell? ⟨b, o + i * 3 + 2, none⟩ = some (.int .u8 (k.2.2.toNat : Int))
def KeyList (w : World) (a : Option Addr) (L : List KeyP) : Prop := ∀ i (h : i < L.length), KeyAt w a i L[i]
theorem KeyAt.grown {w w' : World} {a : Option Addr} {i : Nat} {x : KeyP} (h : KeyAt w a i x) (hg : w.grownBy w' none) : KeyAt w' a i x := by
  obtain ⟨b, o, e, h0, h1, h2⟩ := h
  exact ⟨b, o, e, grown_cell hg h0, grown_cell hg h1, grown_cell hg h2⟩
theorem KeyList.grown {w w' : World} {a : Option Addr} {L : List KeyP} (h : KeyList w a L) (hg : w.grownBy w' none) : KeyList w' a L := fun i hi => (h i hi).grown hg
theorem key_one (k : KeyP) : ∀ u ∈ keyCells k, u.oneCell' = true := by
  intro u hu
  simp only [keyCells, List.mem_cons, List.not_mem_nil, or_false] at hu
  rcases hu with rfl | rfl | rfl <;> rfl
theorem OwnR.keys {w : World} {B : Nat} {v : Value} {L : List KeyP} (h : OwnR w B 96 3 v (L.map keyCells)) : ∃ a c, v = .slice a L.length c ∧ KeyList w a L := by
  obtain ⟨a, c, hv⟩ := h.len
  rw [List.length_map] at hv
  subst hv
  refine ⟨a, c, rfl, fun i hi => ?_⟩
  obtain ⟨b, o, e, hc⟩ := h.elems i (by simpa using hi)
  refine ⟨b, o, e, ?_, ?_, ?_⟩
  · have := hc 0 (by decide)
    simpa [keyCells] using this
  · have := hc 1 (by decide)
    simpa [keyCells] using this
  · have := hc 2 (by decide)
    simpa [keyCells] using this
def goodK (s v : Int) (k : KeyP) : Bool :=
  decide (1 ≤ s ∧ s ≤ 4 ∧ 1 ≤ v ∧ v ≤ 4 ∧ (k.2.1.toNat : Int) < s ∧ ((k.1.toNat = 1 ∨ k.1.toNat = 2) ∧ (k.2.2.toNat : Int) < v ∨ (k.1.toNat = 3 ∨ k.1.toNat = 4) ∧ k.2.2.toNat = 0))
def keyNo (t : Nat) : KeyP := (UInt8.ofNat (1 + t / 16), UInt8.ofNat (t / 4 % 4), UInt8.ofNat (t % 4))
def keysUpto (s v : Int) : Nat → List KeyP
  | 0 => []
  | t + 1 => keysUpto s v t ++ (if goodK s v (keyNo t) then [keyNo t] else [])
def keysF (s v : Int) : List KeyP := keysUpto s v 64
theorem keysUpto_le (s v : Int) : ∀ t, (keysUpto s v t).length ≤ t
  | 0 => Nat.le_refl _
  | t + 1 => by
    have := keysUpto_le s v t
    unfold keysUpto
    rw [List.length_append]
    split <;> simp <;> omega
theorem nat_eq (x y : Nat) : ((x : Int) == (y : Int)) = decide (x = y) := by
  by_cases h : x = y
  · subst h; simp
  · rw [decide_eq_false h, beq_eq_false_iff_ne]
    omega

set_option maxHeartbeats 6400000 in
theorem ref_good (s v : Int) (k : KeyP) (w : World) :
    Calls Try.prog 75 #[.int .i64 s, .int .i64 v, .agg #[.int .u8 (k.1.toNat : Int), .int .u8 (k.2.1.toNat : Int), .int .u8 (k.2.2.toNat : Int)]] w fun r w' => r = .returned (.bool (goodK s v k)) ∧ w.grownBy w' none := by
  have HG := Lib.hid (World.grownBy_alloc w (.cells #[.int .u8 (k.1.toNat : Int), .int .u8 (k.2.1.toNat : Int), .int .u8 (k.2.2.toNat : Int)] 96) none)
  have XL := (Box.new w 96 [.int .u8 (k.1.toNat : Int), .int .u8 (k.2.1.toNat : Int), .int .u8 (k.2.2.toNat : Int)] w.heap.size rfl).look
  have hu := k.2.1.toNat_lt; have hv := k.2.2.toNat_lt
  obtain ⟨r0, hr0⟩ : ∃ r0, goodK s v k = r0 := ⟨_, rfl⟩
  rw [hr0]
  unfold goodK at hr0
  generalize k.1.toNat = x at *
  generalize k.2.1.toNat = y at *
  generalize k.2.2.toNat = z at *
  have q1 : ((x : Int) == 1) = decide (x = 1) := nat_eq x 1
  have q2 : ((x : Int) == 2) = decide (x = 2) := nat_eq x 2
  have q3 : ((x : Int) == 3) = decide (x = 3) := nat_eq x 3
  have q4 : ((x : Int) == 4) = decide (x = 4) := nat_eq x 4
  have q0 : ((z : Int) == 0) = decide (z = 0) := nat_eq z 0
  have HR := Lib.hid hr0
  clear hr0
  by_cases h : 1 ≤ s ∧ s ≤ 4 ∧ 1 ≤ v ∧ v ≤ 4 ∧ (y : Int) < s
  · obtain ⟨h1, h2, h3, h4, h5⟩ := h
    have hx : x = 1 ∨ x = 2 ∨ x = 3 ∨ x = 4 ∨ (x ≠ 1 ∧ x ≠ 2 ∧ x ≠ 3 ∧ x ≠ 4) := by omega
    rcases hx with rfl | rfl | rfl | rfl | ⟨g1, g2, g3, g4⟩
    · clear q0 q1 q2 q3 q4
      by_cases hz : (z : Int) < v
      all_goals (
        go_enter Try.func75, Try.ntmps75
        go_wp2_with fail
        go_ret
        exact ⟨ret_boolVV (by rw [← HR.out]; simp; omega), HG.out⟩)
    · clear q0 q1 q2 q3 q4
      by_cases hz : (z : Int) < v
      all_goals (
        go_enter Try.func75, Try.ntmps75
        go_wp2_with fail
        go_ret
        exact ⟨ret_boolVV (by rw [← HR.out]; simp; omega), HG.out⟩)
    · clear q1 q2 q3 q4
      by_cases hz : z = 0
      · subst hz
        clear q0
        go_enter Try.func75, Try.ntmps75
        go_wp2_with fail
        go_ret
        exact ⟨ret_boolVV (by rw [← HR.out]; simp; omega), HG.out⟩
      · rw [decide_eq_false hz] at q0
        go_enter Try.func75, Try.ntmps75
        go_wp2_with fail
        go_ret
        exact ⟨ret_boolVV (by rw [← HR.out]; simp; omega), HG.out⟩
    · clear q1 q2 q3 q4
      by_cases hz : z = 0
      · subst hz
        clear q0
        go_enter Try.func75, Try.ntmps75
        go_wp2_with fail
        go_ret
        exact ⟨ret_boolVV (by rw [← HR.out]; simp; omega), HG.out⟩
      · rw [decide_eq_false hz] at q0
        go_enter Try.func75, Try.ntmps75
        go_wp2_with fail
        go_ret
        exact ⟨ret_boolVV (by rw [← HR.out]; simp; omega), HG.out⟩
    · rw [decide_eq_false g1] at q1
      rw [decide_eq_false g2] at q2
      rw [decide_eq_false g3] at q3
      rw [decide_eq_false g4] at q4
      have HX := Lib.hid (show x ≠ 1 ∧ x ≠ 2 ∧ x ≠ 3 ∧ x ≠ 4 from ⟨g1, g2, g3, g4⟩)
      clear g1 g2 g3 g4 q0
      go_enter Try.func75, Try.ntmps75
      go_wp2_with fail
      go_ret
      exact ⟨ret_boolVV (by rw [← HR.out]; have := HX.out; simp; omega), HG.out⟩
  · have HF := Lib.hid (show r0 = false by
      rw [← HR.out, decide_eq_false_iff_not]
      exact fun hh => h ⟨hh.1, hh.2.1, hh.2.2.1, hh.2.2.2.1, hh.2.2.2.2.1⟩)
    have hp : ¬ 1 ≤ s ∨ (1 ≤ s ∧ ¬ s ≤ 4) ∨ (1 ≤ s ∧ s ≤ 4 ∧ ¬ 1 ≤ v) ∨ (1 ≤ s ∧ s ≤ 4 ∧ 1 ≤ v ∧ ¬ v ≤ 4) ∨ (1 ≤ s ∧ s ≤ 4 ∧ 1 ≤ v ∧ v ≤ 4 ∧ ¬ (y : Int) < s) := by omega
    clear h q0 q1 q2 q3 q4
    rcases hp with h | ⟨h, h1⟩ | ⟨h, h1, h2⟩ | ⟨h, h1, h2, h3⟩ | ⟨h, h1, h2, h3, h4⟩
    all_goals (
      go_enter Try.func75, Try.ntmps75
      go_wp2_with fail
      go_ret
      exact ⟨ret_boolVV HF.out.symm, HG.out⟩)

end Go.Proofs.Ytomnhgcjdnhijaa
