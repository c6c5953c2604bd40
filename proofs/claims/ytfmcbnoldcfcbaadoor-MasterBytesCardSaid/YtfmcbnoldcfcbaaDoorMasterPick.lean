/-
  The walks through the package master: 'Pick', the example.
-/
import Derived.Test.YtfmcbnoldcfcbaaDoorMasterDec
namespace Go.Proofs.YtfmcbnoldcfcbaaDoor
open Go.RowKit

/-- what 'Pick' tells -/
def pickM (x y : MasterV × Int) : MasterV × Int × Int :=
  if x.2 = 0 ∧ (y.2 ≠ 0 ∨ y.1.gen ≤ x.1.gen) then (x.1, 0, 0) else if y.2 = 0 then (y.1, 1, 0) else (zeroM, 0, 13)
def PickPost (w : World) (t : MasterV × Int × Int) (r : Ending) (w' : World) : Prop :=
  r = .returned (.tuple #[.agg #[.int .u64 (t.1.gen : Int), .int .u8 (t.1.area.toNat : Int), .int .i64 t.1.redo, .int .i64 t.1.tab, .int .i64 t.1.size], .int .i64 t.2.1, .int .i64 t.2.2]) ∧ w.grownBy w' none

set_option maxRecDepth 100000 in
set_option maxHeartbeats 3200000 in
theorem master_pick {X : Nat → Prop} (a : Option Addr) (n cap : Nat) (l : List UInt8) (a' : Option Addr) (n' cap' : Nat) (l' : List UInt8) (w : World) (hs : RS w X a n cap l) (hm : n ≤ 1000) (hs' : RS w X a' n' cap' l') (hm' : n' ≤ 1000) (hT : Tab w) :
    Calls Tryd.prog 14 #[.slice a n cap, .slice a' n' cap'] w (PickPost w (pickM (decM l) (decM l'))) := by
  have HS := Lib.hid hs; have HS' := Lib.hid hs'; have HT := Lib.hid hT
  clear hs hs' hT
  have HBR0 := Lib.hid (Box.new w 24 [.int .u64 0, .int .u8 0, .int .i64 0, .int .i64 0, .int .i64 0] w.heap.size rfl)
  have hga := World.grownBy_alloc w (.cells #[.int .u64 0, .int .u8 0, .int .i64 0, .int .i64 0, .int .i64 0] 24) none
  have HC := Lib.hid (master_decode a n cap l _ (HS.out.grown hga) hm (HT.out.grown hga))
  obtain ⟨⟨x, e⟩, hx⟩ : ∃ t, decM l = t := ⟨_, rfl⟩
  obtain ⟨⟨y, f⟩, hy⟩ : ∃ t, decM l' = t := ⟨_, rfl⟩
  rw [hx, hy]
  rw [hx] at HC
  have HY := Lib.hid hy
  have HGA := Lib.hid hga
  clear hx hy hga
  obtain ⟨⟨z, s, c⟩, hz⟩ : ∃ t, pickM (x, e) (y, f) = t := ⟨_, rfl⟩
  rw [hz]
  have HZ := Lib.hid hz
  clear hz
  go_enter Tryd.func14, Tryd.ntmps14
  go_wp2_with fail
  refine HC.out.mono ?_
  rintro r w1 ⟨rfl, hg⟩
  have HG1 := Lib.hid (grown_trans HGA.out hg); have HB1 := Lib.hid (HBR0.out.grown hg)
  clear hg
  go_wp2_with fail
  have hgx := World.grownBy_alloc w1 (.cells #[.int .u64 (x.gen : Int), .int .u8 (x.area.toNat : Int), .int .i64 x.redo, .int .i64 x.tab, .int .i64 x.size] 24) none
  have HBX := Lib.hid (Box.new w1 24 [.int .u64 (x.gen : Int), .int .u8 (x.area.toNat : Int), .int .i64 x.redo, .int .i64 x.tab, .int .i64 x.size] w1.heap.size rfl)
  have HG2 := Lib.hid (grown_trans HG1.out hgx); have HB2 := Lib.hid (HB1.out.grown hgx)
  clear hgx HG1 HB1
  generalize w1.alloc (.cells #[.int .u64 (x.gen : Int), .int .u8 (x.area.toNat : Int), .int .i64 x.redo, .int .i64 x.tab, .int .i64 x.size] 24) = w2 at *
  generalize w1.heap.size = bx at *
  have hc := master_decode a' n' cap' l' w2 (HS'.out.grown HG2.out) hm' (HT.out.grown HG2.out)
  rw [HY.out] at hc
  refine hc.mono ?_
  clear hc
  rintro r w3 ⟨rfl, hg⟩
  have HG3 := Lib.hid (grown_trans HG2.out hg); have HB3 := Lib.hid (HB2.out.grown hg); have HBX3 := Lib.hid (HBX.out.grown hg)
  clear hg HG2 HB2 HBX
  have hgy := World.grownBy_alloc w3 (.cells #[.int .u64 (y.gen : Int), .int .u8 (y.area.toNat : Int), .int .i64 y.redo, .int .i64 y.tab, .int .i64 y.size] 24) none
  have HBY := Lib.hid (Box.new w3 24 [.int .u64 (y.gen : Int), .int .u8 (y.area.toNat : Int), .int .i64 y.redo, .int .i64 y.tab, .int .i64 y.size] w3.heap.size rfl)
  have HG4 := Lib.hid (grown_trans HG3.out hgy); have HB4 := Lib.hid (HB3.out.grown hgy); have HBX4 := Lib.hid (HBX3.out.grown hgy)
  clear hgy HG3 HB3 HBX3
  have hz := HZ.out
  unfold pickM at hz
  simp only at hz
  have x5 := HBX4.out.cell 0 rfl
  have x6 := HBX4.out.cell 1 rfl
  have x7 := HBX4.out.cell 2 rfl
  have x8 := HBX4.out.cell 3 rfl
  have x9 := HBX4.out.cell 4 rfl
  have y5 := HBY.out.cell 0 rfl
  have y6 := HBY.out.cell 1 rfl
  have y7 := HBY.out.cell 2 rfl
  have y8 := HBY.out.cell 3 rfl
  have y9 := HBY.out.cell 4 rfl
  have x0 := HB4.out.cell 0 rfl
  have y0 := HB4.out.free 0
  have x1 := fun v => (HB4.out.set 0 v).cell 1 rfl
  have y1 := fun v => (HB4.out.set 0 v).free 1
  have x2 := fun v u => ((HB4.out.set 0 v).set 1 u).cell 2 rfl
  have y2 := fun v u => ((HB4.out.set 0 v).set 1 u).free 2
  have x3 := fun v u t => (((HB4.out.set 0 v).set 1 u).set 2 t).cell 3 rfl
  have y3 := fun v u t => (((HB4.out.set 0 v).set 1 u).set 2 t).free 3
  have x4 := fun v u t s => ((((HB4.out.set 0 v).set 1 u).set 2 t).set 3 s).cell 4 rfl
  have y4 := fun v u t s => ((((HB4.out.set 0 v).set 1 u).set 2 t).set 3 s).free 4
  by_cases he : e = 0
  · subst he
    by_cases hf : f = 0
    · subst hf
      by_cases hge : y.gen ≤ x.gen
      · have hge' : (y.gen : Int) ≤ (x.gen : Int) := by omega
        rw [if_pos ⟨rfl, .inr hge⟩] at hz
        simp only [Prod.mk.injEq] at hz
        obtain ⟨rfl, rfl, rfl⟩ := hz
        go_wp2_with fail
        have BF := set5 HB4.out (.int .u64 (x.gen : Int)) (.int .u8 (x.area.toNat : Int)) (.int .i64 x.redo) (.int .i64 x.tab) (.int .i64 x.size)
        have b0 := BF.cell 0 rfl
        have b1 := BF.cell 1 rfl
        have b2 := BF.cell 2 rfl
        have b3 := BF.cell 3 rfl
        have b4 := BF.cell 4 rfl
        refine bodyPost_ret (v := .tuple #[.agg #[.int .u64 (x.gen : Int), .int .u8 (x.area.toNat : Int), .int .i64 x.redo, .int .i64 x.tab, .int .i64 x.size], .int .i64 0, .int .i64 0]) ?_ rfl ?_
        · simp only [results]
          go_simp
        · exact ⟨rfl, grown_new HG4.out (Nat.le_refl _) (grown5 _ _ _ _ _ _ _)⟩
      · have hge' : (x.gen : Int) < (y.gen : Int) := by omega
        rw [if_neg (by rintro ⟨_, h | h⟩; exact h rfl; exact hge h), if_pos rfl] at hz
        simp only [Prod.mk.injEq] at hz
        obtain ⟨rfl, rfl, rfl⟩ := hz
        go_wp2_with fail
        have BF := set5 HB4.out (.int .u64 (y.gen : Int)) (.int .u8 (y.area.toNat : Int)) (.int .i64 y.redo) (.int .i64 y.tab) (.int .i64 y.size)
        have b0 := BF.cell 0 rfl
        have b1 := BF.cell 1 rfl
        have b2 := BF.cell 2 rfl
        have b3 := BF.cell 3 rfl
        have b4 := BF.cell 4 rfl
        refine bodyPost_ret (v := .tuple #[.agg #[.int .u64 (y.gen : Int), .int .u8 (y.area.toNat : Int), .int .i64 y.redo, .int .i64 y.tab, .int .i64 y.size], .int .i64 1, .int .i64 0]) ?_ rfl ?_
        · simp only [results]
          go_simp
        · exact ⟨rfl, grown_new HG4.out (Nat.le_refl _) (grown5 _ _ _ _ _ _ _)⟩
    · have hf' : (f != 0) = true := by simp [hf]
      have hf2 : (f == 0) = false := by simpa using hf
      rw [if_pos ⟨rfl, .inl hf⟩] at hz
      simp only [Prod.mk.injEq] at hz
      obtain ⟨rfl, rfl, rfl⟩ := hz
      go_wp2_with fail
      have BF := set5 HB4.out (.int .u64 (x.gen : Int)) (.int .u8 (x.area.toNat : Int)) (.int .i64 x.redo) (.int .i64 x.tab) (.int .i64 x.size)
      have b0 := BF.cell 0 rfl
      have b1 := BF.cell 1 rfl
      have b2 := BF.cell 2 rfl
      have b3 := BF.cell 3 rfl
      have b4 := BF.cell 4 rfl
      refine bodyPost_ret (v := .tuple #[.agg #[.int .u64 (x.gen : Int), .int .u8 (x.area.toNat : Int), .int .i64 x.redo, .int .i64 x.tab, .int .i64 x.size], .int .i64 0, .int .i64 0]) ?_ rfl ?_
      · simp only [results]
        go_simp
      · exact ⟨rfl, grown_new HG4.out (Nat.le_refl _) (grown5 _ _ _ _ _ _ _)⟩
  · have he' : (e == 0) = false := by simpa using he
    by_cases hf : f = 0
    · subst hf
      rw [if_neg (fun h => he h.1), if_pos rfl] at hz
      simp only [Prod.mk.injEq] at hz
      obtain ⟨rfl, rfl, rfl⟩ := hz
      go_wp2_with fail
      have BF := set5 HB4.out (.int .u64 (y.gen : Int)) (.int .u8 (y.area.toNat : Int)) (.int .i64 y.redo) (.int .i64 y.tab) (.int .i64 y.size)
      have b0 := BF.cell 0 rfl
      have b1 := BF.cell 1 rfl
      have b2 := BF.cell 2 rfl
      have b3 := BF.cell 3 rfl
      have b4 := BF.cell 4 rfl
      refine bodyPost_ret (v := .tuple #[.agg #[.int .u64 (y.gen : Int), .int .u8 (y.area.toNat : Int), .int .i64 y.redo, .int .i64 y.tab, .int .i64 y.size], .int .i64 1, .int .i64 0]) ?_ rfl ?_
      · simp only [results]
        go_simp
      · exact ⟨rfl, grown_new HG4.out (Nat.le_refl _) (grown5 _ _ _ _ _ _ _)⟩
    · have hf2 : (f == 0) = false := by simpa using hf
      rw [if_neg (fun h => he h.1), if_neg hf] at hz
      simp only [Prod.mk.injEq] at hz
      obtain ⟨rfl, rfl, rfl⟩ := hz
      go_wp2_with fail
      have BF := set5 HB4.out (.int .u64 0) (.int .u8 0) (.int .i64 0) (.int .i64 0) (.int .i64 0)
      have b0 := BF.cell 0 rfl
      have b1 := BF.cell 1 rfl
      have b2 := BF.cell 2 rfl
      have b3 := BF.cell 3 rfl
      have b4 := BF.cell 4 rfl
      refine bodyPost_ret (v := .tuple #[.agg #[.int .u64 0, .int .u8 0, .int .i64 0, .int .i64 0, .int .i64 0], .int .i64 0, .int .i64 13]) ?_ rfl ?_
      · simp only [results]
        go_simp
      · exact ⟨rfl, grown_new HG4.out (Nat.le_refl _) (grown5 _ _ _ _ _ _ _)⟩

end Go.Proofs.YtfmcbnoldcfcbaaDoor
