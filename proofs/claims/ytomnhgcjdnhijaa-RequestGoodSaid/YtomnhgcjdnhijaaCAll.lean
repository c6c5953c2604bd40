/-
  All keys, by the document.
-/
import Derived.Test.YtomnhgcjdnhijaaCKey
namespace Go.Proofs.Ytomnhgcjdnhijaa
open Go.RowKit
set_option maxRecDepth 100000

theorem u8wrap (x : Nat) : IntKind.u8.wrap (x : Int) = ((UInt8.ofNat x).toNat : Int) := by
  simp [IntKind.wrap, IntKind.signed, IntKind.bits]
theorem keyNo_at {a b c : Nat} (_ha : a < 4) (hb : b < 4) (hc : c < 4) : keyNo (16 * a + 4 * b + c) = (UInt8.ofNat (a + 1), UInt8.ofNat b, UInt8.ofNat c) := by
  unfold keyNo
  have h1 : 1 + (16 * a + 4 * b + c) / 16 = a + 1 := by omega
  have h2 : (16 * a + 4 * b + c) / 4 % 4 = b := by omega
  have h3 : (16 * a + 4 * b + c) % 4 = c := by omega
  rw [h1, h2, h3]
def AllRel1 (w : World) (s v : Int) (base cnt : Nat) (out i : Value) (wr : World) : Prop :=
  ∃ k : Nat, k ≤ 4 ∧ i = .int .i64 ((k : Int) + 1) ∧ OwnR wr w.heap.size 96 3 out ((keysUpto s v (base + cnt * k)).map keyCells) ∧ w.grownBy wr none
def AllRel (w : World) (s v : Int) (base cnt : Nat) (out i : Value) (wr : World) : Prop :=
  ∃ k : Nat, k ≤ 4 ∧ i = .int .i64 k ∧ OwnR wr w.heap.size 96 3 out ((keysUpto s v (base + cnt * k)).map keyCells) ∧ w.grownBy wr none
/-- a's block is one of the call's own -/
def Fresh (B : Nat) (a : Option Addr) : Prop := ∀ x, a = some x → B ≤ x.block
def KeysPost2 (w : World) (L : List KeyP) (r : Ending) (w' : World) : Prop := ∃ a c, r = .returned (.slice a L.length c) ∧ (KeyList w' a L ∧ Fresh w.heap.size a) ∧ w.grownBy w' none
def KeysPost (w : World) (L : List KeyP) (r : Ending) (w' : World) : Prop := ∃ a c, r = .returned (.slice a L.length c) ∧ KeyList w' a L ∧ w.grownBy w' none

set_option maxHeartbeats 12800000 in
theorem ref_all2 (s v : Int) (w : World) : Calls Try.prog 72 #[.int .i64 s, .int .i64 v] w (KeysPost2 w (keysF s v)) := by
  go_enter Try.func72, Try.ntmps72
  go_wp2_with fail
  go_loopw [5, 6] (fun o i wr => AllRel1 w s v 0 16 o i wr) (fun _ i _ => 5 - (intOf i).toNat)
  case atStart => exact ⟨0, by omega, rfl, OwnR.nil _ _ _ _, World.grownBy.refl _ _⟩
  case round =>
    obtain ⟨w9, hw9⟩ : ∃ w9, w9 = wr := ⟨_, rfl⟩
    subst hw9
    obtain ⟨a, ha, rfl, ho, hg⟩ := hrel
    have HO := Lib.hid ho; have HG := Lib.hid hg
    clear ho hg
    by_cases hlt : a < 4
    · have j1 : (a : Int) + 1 ≤ 4 := by omega
      go_wp2_with fail
      go_loopw [5, 7] (fun o i wr => AllRel w s v (16 * a) 4 o i wr) (fun _ i _ => 4 - (intOf i).toNat)
      case atStart => exact ⟨0, by omega, rfl, by simpa using HO.out, HG.out⟩
      case round =>
        obtain ⟨w8, hw8⟩ : ∃ w8, w8 = wr := ⟨_, rfl⟩
        subst hw8
        obtain ⟨b, hb, rfl, ho, hg⟩ := hrel
        have HO2 := Lib.hid ho; have HG2 := Lib.hid hg
        clear ho hg
        by_cases hlb : b < 4
        · have j2 : (b : Int) < 4 := by omega
          go_wp2_with fail
          go_loopw [5, 8] (fun o i wr => AllRel w s v (16 * a + 4 * b) 1 o i wr) (fun _ i _ => 4 - (intOf i).toNat)
          case atStart => exact ⟨0, by omega, rfl, by simpa using HO2.out, HG2.out⟩
          case round =>
            obtain ⟨c, hc, rfl, ho, hg⟩ := hrel
            rw [Nat.one_mul] at ho
            have HO3 := Lib.hid ho; have HG3 := Lib.hid hg
            clear ho hg
            by_cases hlc : c < 4
            · have j3 : (c : Int) < 4 := by omega
              obtain ⟨y, hy⟩ : ∃ y, keyNo (16 * a + 4 * b + c) = y := ⟨_, rfl⟩
              have hk := (keyNo_at hlt hlb hlc).symm.trans hy
              have w1 : IntKind.u8.wrap ((a : Int) + 1) = (y.1.toNat : Int) := by rw [← hk]; exact u8wrap (a + 1)
              have w2 : IntKind.u8.wrap (b : Int) = (y.2.1.toNat : Int) := by rw [← hk]; exact u8wrap b
              have w3 : IntKind.u8.wrap (c : Int) = (y.2.2.toNat : Int) := by rw [← hk]; exact u8wrap c
              have hgd := fun u => ref_good s v y u
              obtain ⟨t, ht⟩ : ∃ t, goodK s v y = t := ⟨_, rfl⟩
              have hst : keysUpto s v (16 * a + 4 * b + 1 * (c + 1)) = keysUpto s v (16 * a + 4 * b + c) ++ (if t then [y] else []) := by
                rw [show 16 * a + 4 * b + 1 * (c + 1) = (16 * a + 4 * b + c) + 1 by omega]
                show keysUpto s v (16 * a + 4 * b + c) ++ (if goodK s v (keyNo (16 * a + 4 * b + c)) then [keyNo (16 * a + 4 * b + c)] else []) = _
                rw [hy, ht]
              rw [ht] at hgd
              have HGD := Lib.hid hgd
              have hbx := Box.new wr 96 [.int .u8 (y.1.toNat : Int), .int .u8 (y.2.1.toNat : Int), .int .u8 (y.2.2.toNat : Int)] wr.heap.size rfl
              have XL := look_later hbx
              have hself := World.grownBy.refl (wr.alloc (.cells #[.int .u8 (y.1.toNat : Int), .int .u8 (y.2.1.toNat : Int), .int .u8 (y.2.2.toNat : Int)] 96)) none
              have HGA := Lib.hid (World.grownBy_alloc wr (.cells #[.int .u8 (y.1.toNat : Int), .int .u8 (y.2.1.toNat : Int), .int .u8 (y.2.2.toNat : Int)] 96) none)
              have HLE := Lib.hid (show ((keysUpto s v (16 * a + 4 * b + c)).map keyCells).length ≤ 64 by
                rw [List.length_map]
                have := keysUpto_le s v (16 * a + 4 * b + c)
                omega)
              clear hy hk ht hgd hbx
              cases t
              · have HST := Lib.hid (hst.trans (List.append_nil _))
                clear hst
                go_wp2_with fail
                refine (HGD.out _).mono ?_
                rintro r w2' ⟨rfl, hg2⟩
                have HGE := Lib.hid (grown_trans HGA.out hg2)
                clear hg2 XL hself
                go_wp2_with fail
                go_roundw
                all_goals first
                  | (exact ⟨c + 1, by omega, by go_num, by rw [HST.out]; exact HO3.out.grown HGE.out, grown_trans HG3.out HGE.out⟩)
                  | (simp [intOf]; omega)
              · have HST : Hid (keysUpto s v (16 * a + 4 * b + 1 * (c + 1)) = keysUpto s v (16 * a + 4 * b + c) ++ [y]) := Lib.hid hst
                clear hst
                go_wp2_with fail
                refine (HGD.out _).mono ?_
                rintro r w2' ⟨rfl, hg2⟩
                have HGE := Lib.hid (grown_trans HGA.out hg2)
                have hself2 := World.grownBy.refl w2' none
                have HSZ := Lib.hid (growAVV _ (.cells #[.int .u8 (y.1.toNat : Int), .int .u8 (y.2.1.toNat : Int), .int .u8 (y.2.2.toNat : Int)] 96) (grown_trans HG3.out HGE.out))
                go_wp2_with (at_builtin; refine wpList_append_elem (o := ⟨some 36, _, _, _, _, _⟩) rfl _ _ 117 96 rfl Try.underlying117 _ 3 3 info_key rfl (by decide) (HO3.out.grown (growAVV _ _ HGE.out)) rfl (heap_new_at _ _ _ (by simp)) rfl rfl (key_one y) (by have := HLE.out; omega) (by have := HLE.out; omega) HSZ.out.size ?_)
                intro g cap wc hoc hgc hkc
                have HOC := Lib.hid (show OwnR wc w.heap.size 96 3 _ ((keysUpto s v (16 * a + 4 * b + 1 * (c + 1))).map keyCells) by
                  rw [HST.out, List.map_append]
                  exact hoc)
                have HGC := Lib.hid (grown_row HSZ.out (fun q h => (HO3.out.lt q h).1) hgc)
                clear hoc hgc hkc hg2 XL hself hself2
                go_wp2_with fail
                go_roundw
                all_goals first
                  | (exact ⟨c + 1, by omega, by go_num, HOC.out, HGC.out⟩)
                  | (simp [intOf]; omega)
            · obtain rfl : c = 4 := by omega
              go_wp2_with fail
              go_roundw
              all_goals first
                | (exact ⟨b + 1, by omega, by go_num, by rw [show 16 * a + 4 * (b + 1) = 16 * a + 4 * b + 4 by omega]; exact HO3.out, HG3.out⟩)
                | (simp [intOf]; omega)
        · obtain rfl : b = 4 := by omega
          go_wp2_with fail
          go_roundw
          all_goals first
            | (exact ⟨a + 1, by omega, by go_num, by rw [show 0 + 16 * (a + 1) = 16 * a + 4 * 4 by omega]; exact HO2.out, HG2.out⟩)
            | (simp [intOf]; omega)
    · obtain rfl : a = 4 := by omega
      obtain ⟨a9, c9, rfl, hl⟩ := HO.out.keys
      have HFR := Lib.hid (show Fresh w.heap.size a9 from fun x hx => (HO.out.lt x.block (by rw [hx]; rfl)).1)
      have HL := Lib.hid hl
      clear hl
      go_wp2_with fail
      go_ret
      exact ⟨_, _, rfl, ⟨HL.out, HFR.out⟩, HG.out⟩
theorem ref_all (s v : Int) (w : World) : Calls Try.prog 72 #[.int .i64 s, .int .i64 v] w (KeysPost w (keysF s v)) :=
  (ref_all2 s v w).mono (by rintro r w' ⟨a, c, h1, h2, h3⟩; exact ⟨a, c, h1, h2.1, h3⟩)

end Go.Proofs.Ytomnhgcjdnhijaa
