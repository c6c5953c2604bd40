/-
  The walks through the package wire: 'Num'.
-/
import Derived.Test.YtomnhgcjdnhijaaWireWalk
namespace Go.Proofs.Ytomnhgcjdnhijaa
open Go.RowKit

theorem wire_num_nil (w : World) (x : Int) (n : Int) :
    Calls Try.prog 36 #[.pointer none, .int .u64 x, .int .i64 n] w fun e w' => e = .returned (.tuple #[]) ∧ w = w' := by
  go_enter Try.func36, Try.ntmps36
  go_wp2_with fail
  go_end0
  exact ⟨rfl, rfl⟩

/-- the bytes of a number, the lowest first -/
def numB (x : Nat) (n : Nat) : List UInt8 := (List.range n).map fun i => UInt8.ofNat (x / 2 ^ (8 * i))
/-- what is wrong is noted, if nothing was -/
def wrongW (s : Int × List UInt8) (n : Int) : Int × List UInt8 := (if s.1 = 0 then n else s.1, s.2)
/-- what 'Num' does -/
def numW (most : Nat) (s : Int × List UInt8) (x : Nat) (n : Int) : Int × List UInt8 :=
  if n < 1 ∨ 8 < n ∨ (n < 8 ∧ x / 2 ^ (8 * n.toNat) ≠ 0) then wrongW s 1 else rawW most s (numB x n.toNat)

theorem wrong_post {w w' : World} {g : Nat} {e n : Int} {v : Value} {l : List UInt8} {most : Nat} (W : WriterAt w g e v l most) (hb : Box w' g 104 (.int .i64 (if e = 0 then n else e) :: [v, .int .i64 most])) (hg : w.grownBy w' (some g)) (r : Ending) :
    WPost w g v most (wrongW (e, l) n) r w' :=
  ⟨v, ⟨hb, W.row.kept hg (.inr (W.row.ne (by omega))), W.fit⟩, Kept.of_row hg (.inl rfl), fun _ h => .inl h⟩

/-- an array of eight bytes of which the first j are laid -/
def Num8 (w : World) (A : Nat) (x j : Nat) : Prop := Box w A 106 ((numB x j ++ List.replicate (8 - j) 0).map bval)
theorem Num8.zero (w : World) (x : Nat) : Num8 (w.alloc (.cells #[.int .u8 0, .int .u8 0, .int .u8 0, .int .u8 0, .int .u8 0, .int .u8 0, .int .u8 0, .int .u8 0] 106)) w.heap.size x 0 :=
  Box.new w 106 [.int .u8 0, .int .u8 0, .int .u8 0, .int .u8 0, .int .u8 0, .int .u8 0, .int .u8 0, .int .u8 0] w.heap.size rfl
theorem Num8.grown {w w' : World} {A x j : Nat} (h : Num8 w A x j) (hg : w.grownBy w' none) : Num8 w' A x j := Box.grown h hg
theorem Num8.at {w : World} {A x j : Nat} (h : Num8 w A x j) (hj : j < 8) : w.cell? ⟨A, j, none⟩ = some (.int .u8 0) ∧ w.frozen? ⟨A, j, none⟩ = false := by
  refine ⟨Box.cell h j ?_, Box.free h j⟩
  rw [List.getElem?_map, List.getElem?_append_right (by simp [numB]), List.getElem?_replicate, if_pos (by simp [numB]; omega)]
  rfl
theorem Num8.set {w : World} {A x j : Nat} (h : Num8 w A x j) (hj : j < 8) : Num8 (w.setCell ⟨A, j, none⟩ (.int .u8 ((x / 2 ^ (8 * j) % 256 : Nat) : Int))) A x (j + 1) := by
  have h1 := Box.set h j (.int .u8 ((x / 2 ^ (8 * j) % 256 : Nat) : Int))
  unfold Num8
  have e : ((numB x j ++ List.replicate (8 - j) 0).map bval).set j (.int .u8 ((x / 2 ^ (8 * j) % 256 : Nat) : Int)) = (numB x (j + 1) ++ List.replicate (8 - (j + 1)) 0).map bval := by
    have hl : (numB x j).length = j := by simp [numB]
    have hb : (Value.int .u8 ((x / 2 ^ (8 * j) % 256 : Nat) : Int)) = bval (UInt8.ofNat (x / 2 ^ (8 * j))) := by simp [bval]
    rw [hb, ← List.map_set, List.set_append_right _ _ (by omega), hl, Nat.sub_self, show 8 - j = (8 - (j + 1)) + 1 by omega, List.replicate_succ, List.set_cons_zero]
    simp [numB, List.range_succ]
  rw [← e]
  exact h1
theorem Num8.reads {w : World} {A x j : Nat} (h : Num8 w A x j) : RB w (some ⟨A, 0, none⟩) (numB x j) := by
  intro i hi
  refine ⟨A, 0, rfl, ?_⟩
  refine Box.cell h (0 + i) ?_
  rw [Nat.zero_add, List.getElem?_map, List.getElem?_append_left hi, List.getElem?_eq_getElem hi]
  rfl

theorem WriterAt.grown {w w' : World} {g : Nat} {e : Int} {v : Value} {l : List UInt8} {most : Nat} (W : WriterAt w g e v l most) (hg : w.grownBy w' none) : WriterAt w' g e v l most :=
  ⟨W.box.grown hg, W.row.kept hg (by cases v.ownBlock <;> simp), W.fit⟩
theorem Wrote.behind {a b c : World} {g : Nat} {v v' : Value} (h : a.grownBy b none) (k : Wrote b g v c v') : Wrote a g v c v' :=
  ⟨(Kept.of_grown h).trans k.kept, fun q e => (k.row q e).imp id (fun h' => Nat.le_trans h.size h')⟩

set_option maxRecDepth 100000 in
set_option maxHeartbeats 3200000 in
theorem wire_num {w : World} {g : Nat} {e : Int} {v : Value} {l : List UInt8} {most : Nat} (W : WriterAt w g e v l most) (x : Nat) (hx : x < 18446744073709551616) (n : Int) (hm : Room most l 8) :
    Calls Try.prog 36 #[.pointer (some ⟨g, 0, none⟩), .int .u64 x, .int .i64 n] w fun r w' => r = .returned (.tuple #[]) ∧ WPost w g v most (numW most (e, l) x n) r w' := by
  have HW := Lib.hid W; clear W
  have HX := Lib.hid hx; clear hx
  by_cases h1 : n < 1
  · go_enter Try.func36, Try.ntmps36
    go_wp2_with fail
    refine (wire_wrong HW.out.box 1).mono ?_
    rintro r w1 ⟨rfl, hb, hg⟩
    have HB := Lib.hid (wrong_post HW.out hb hg)
    clear hb hg
    go_wp2_with fail
    go_end0
    refine ⟨rfl, ?_⟩
    unfold numW
    rw [if_pos (.inl h1)]
    exact HB.out _
  · by_cases h2 : 8 < n
    · go_enter Try.func36, Try.ntmps36
      go_wp2_with fail
      refine (wire_wrong HW.out.box 1).mono ?_
      rintro r w1 ⟨rfl, hb, hg⟩
      have HB := Lib.hid (wrong_post HW.out hb hg)
      clear hb hg
      go_wp2_with fail
      go_end0
      refine ⟨rfl, ?_⟩
      unfold numW
      rw [if_pos (.inr (.inl h2))]
      exact HB.out _
    · obtain ⟨k, rfl⟩ : ∃ k : Nat, n = k := ⟨n.toNat, by omega⟩
      by_cases h3 : (k : Int) < 8 ∧ x / 2 ^ (8 * k) ≠ 0
      · have h4 : ((x : Int) / 2 ^ (8 * k) != 0) = true := by
          have := h3.2
          simp only [bne_iff_ne, ne_eq]
          exact_mod_cast this
        have h5 := h3.1
        go_enter Try.func36, Try.ntmps36
        go_wp2_with fail
        refine (wire_wrong HW.out.box 1).mono ?_
        rintro r w1 ⟨rfl, hb, hg⟩
        have HB := Lib.hid (wrong_post HW.out hb hg)
        clear hb hg
        go_wp2_with fail
        go_end0
        refine ⟨rfl, ?_⟩
        unfold numW
        rw [if_pos (.inr (.inr ⟨h3.1, by simpa using h3.2⟩))]
        exact HB.out _
      · have hx : numW most (e, l) x k = rawW most (e, l) (numB x k) := by
          unfold numW
          rw [if_neg (by simp only [Int.toNat_natCast]; rintro (h | h | h); exact h1 h; exact h2 h; exact h3 h)]
          rfl
        rw [hx]
        clear hx
        have hk1 : 1 ≤ k := by omega
        have hk8 : k ≤ 8 := by omega
        by_cases h5 : (k : Int) < 8
        · have h4 : ((x : Int) / 2 ^ (8 * k) != 0) = false := by
            have : x / 2 ^ (8 * k) = 0 := by
              by_cases h : x / 2 ^ (8 * k) = 0
              · exact h
              · exact absurd ⟨h5, h⟩ h3
            have h6 : ((x : Int) / 2 ^ (8 * k)) = 0 := by exact_mod_cast this
            simp [h6]
          clear h1 h2 h3
          go_enter Try.func36, Try.ntmps36
          go_wp2_with fail
          have hz := Num8.zero w x
          have hg0 := World.grownBy_alloc w (.cells #[.int .u8 0, .int .u8 0, .int .u8 0, .int .u8 0, .int .u8 0, .int .u8 0, .int .u8 0, .int .u8 0] 106) none
          have hsz : w.heap.size + 1 = (w.alloc (.cells #[.int .u8 0, .int .u8 0, .int .u8 0, .int .u8 0, .int .u8 0, .int .u8 0, .int .u8 0, .int .u8 0] 106)).heap.size := by simp
          generalize w.alloc (.cells #[.int .u8 0, .int .u8 0, .int .u8 0, .int .u8 0, .int .u8 0, .int .u8 0, .int .u8 0, .int .u8 0] 106) = w0 at *
          go_loopw [9] (fun i wr => ∃ j : Nat, j ≤ k ∧ i = .int .i64 j ∧ Num8 wr w.heap.size x j ∧ w.grownBy wr none) (fun i _ => k - (intOf i).toNat)
          case atStart => exact ⟨0, Nat.zero_le _, rfl, hz, hg0⟩
          case round =>
            clear hz hg0
            obtain ⟨j, hj, rfl, hn, hgr⟩ := hrel
            have HN := Lib.hid hn; have HGR := Lib.hid hgr
            clear hn hgr
            by_cases hlt : j < k
            · obtain ⟨d0, d1⟩ := HN.out.at (show j < 8 by omega)
              have i0 : (0 : Int) ≤ (j : Int) := by omega
              have i1 : (j : Int) < 8 := by omega
              go_wp2_with fail
              refine ⟨⟨j + 1, by omega, by go_num, ?_, grown_new HGR.out (Nat.le_refl _) (grown_setCell _ _ _ _)⟩, by simp only [intOf]; omega⟩
              have := HN.out.set (show j < 8 by omega)
              push_cast at this
              exact this
            · obtain rfl : j = k := by omega
              go_wp2_with fail
              refine (wire_raw (HW.out.grown HGR.out) (some ⟨w.heap.size, 0, none⟩) j 8 (numB x j) (by simp [numB]) HN.out.reads (hm.few (by omega))).mono ?_
              rintro r w1 ⟨rfl, v', hw', hwr⟩
              have HA := Lib.hid hw'; have HB := Lib.hid hwr
              clear hw' hwr
              go_wp2_with fail
              go_end0
              exact ⟨rfl, v', HA.out, HB.out.behind HGR.out⟩
        · obtain rfl : k = 8 := by omega
          clear h1 h2 h3
          go_enter Try.func36, Try.ntmps36
          go_wp2_with fail
          have hz := Num8.zero w x
          have hg0 := World.grownBy_alloc w (.cells #[.int .u8 0, .int .u8 0, .int .u8 0, .int .u8 0, .int .u8 0, .int .u8 0, .int .u8 0, .int .u8 0] 106) none
          have hsz : w.heap.size + 1 = (w.alloc (.cells #[.int .u8 0, .int .u8 0, .int .u8 0, .int .u8 0, .int .u8 0, .int .u8 0, .int .u8 0, .int .u8 0] 106)).heap.size := by simp
          generalize w.alloc (.cells #[.int .u8 0, .int .u8 0, .int .u8 0, .int .u8 0, .int .u8 0, .int .u8 0, .int .u8 0, .int .u8 0] 106) = w0 at *
          go_loopw [9] (fun i wr => ∃ j : Nat, j ≤ 8 ∧ i = .int .i64 j ∧ Num8 wr w.heap.size x j ∧ w.grownBy wr none) (fun i _ => 8 - (intOf i).toNat)
          case atStart => exact ⟨0, Nat.zero_le _, rfl, hz, hg0⟩
          case round =>
            clear hz hg0
            obtain ⟨j, hj, rfl, hn, hgr⟩ := hrel
            have HN := Lib.hid hn; have HGR := Lib.hid hgr
            clear hn hgr
            by_cases hlt : j < 8
            · obtain ⟨d0, d1⟩ := HN.out.at (show j < 8 by omega)
              have i0 : (0 : Int) ≤ (j : Int) := by omega
              have i1 : (j : Int) < 8 := by omega
              go_wp2_with fail
              refine ⟨⟨j + 1, by omega, by go_num, ?_, grown_new HGR.out (Nat.le_refl _) (grown_setCell _ _ _ _)⟩, by simp only [intOf]; omega⟩
              have := HN.out.set (show j < 8 by omega)
              push_cast at this
              exact this
            · obtain rfl : j = 8 := by omega
              go_wp2_with fail
              refine (wire_raw (HW.out.grown HGR.out) (some ⟨w.heap.size, 0, none⟩) 8 8 (numB x 8) (by simp [numB]) HN.out.reads (hm.few (by omega))).mono ?_
              rintro r w1 ⟨rfl, v', hw', hwr⟩
              have HA := Lib.hid hw'; have HB := Lib.hid hwr
              clear hw' hwr
              go_wp2_with fail
              go_end0
              exact ⟨rfl, v', HA.out, HB.out.behind HGR.out⟩

end Go.Proofs.Ytomnhgcjdnhijaa
