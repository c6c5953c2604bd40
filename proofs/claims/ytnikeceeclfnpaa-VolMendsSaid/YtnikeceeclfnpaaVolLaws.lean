/-
  The walks through the statements on volumes: the example, and nil.
-/
import Derived.Test.YtnikeceeclfnpaaVolMore
namespace Go.Proofs.Ytnikeceeclfnpaa
open Go.RowKit

def volFinal : List UInt8 := [120, 121, 0, 100]

set_option maxHeartbeats 800000 in
theorem vol_works (w : World) :
    Calls Try.prog 11 #[] w fun e w' => e = .returned (.bool true) ∧ Below w.heap.size w w' := by
  have kc := fun (w : World) (C : Array Value) (n c g : Nat) (hg : g = w.heap.size) => Joins.run_convert_bytes_const_at (P := Try.prog) w 33 5 C n c g hg Try.underlying33 Try.underlying5
  go_enter Try.func11, Try.ntmps11
  go_wp2_with fail
  refine (vol_new 2 4 w).mono ?_
  rintro e w1 ⟨g, h, N, rfl, hv, hg⟩
  rw [show clampN 2 1024 = 2 from rfl, show clampN 4 4096 = 4 from rfl] at hv
  have hN : N = 8 := by rw [← hv.mul]
  subst hN
  have hb1 := grown_below hg
  have HV := Lib.hid hv; have HG := Lib.hid hg; have HB := Lib.hid hb1
  clear hv hg hb1
  go_wp2_with fail
  have HR := Lib.hid (RB.const w1 #[.int .u8 97, .int .u8 98, .int .u8 99, .int .u8 100] 5 (4, 4 + 1) [97, 98, 99, 100] w1.heap.size rfl rfl)
  have hga := World.grownBy_alloc w1 (.cells #[.int .u8 97, .int .u8 98, .int .u8 99, .int .u8 100] 5 (4, 4 + 1)) none
  have HV1 := Lib.hid (HV.out.grown hga)
  have HG1 := Lib.hid (grown_trans HG.out hga)
  clear hga HV HG
  refine (vol_put_any HV1.out 1 _ 4 4 [97, 98, 99, 100] rfl HR.out).mono ?_
  rw [show tearV 2 4 (List.replicate 8 0) 1 [97, 98, 99, 100] ((4 : Nat) : Int) = ([0, 0, 0, 0, 97, 98, 99, 100], 0) from rfl]
  rintro e w2 ⟨rfl, hv2, hg2⟩
  have HV2 := Lib.hid hv2
  have HG2 := Lib.hid (grown_new HG1.out HV1.out.h_ge hg2)
  clear hv2 hg2 HV1 HG1 HR
  go_wp2_with fail
  have HR := Lib.hid (RB.const w2 #[.int .u8 120, .int .u8 121] 5 (2, 2 + 1) [120, 121] w2.heap.size rfl rfl)
  have hga := World.grownBy_alloc w2 (.cells #[.int .u8 120, .int .u8 121] 5 (2, 2 + 1)) none
  have HV3 := Lib.hid (HV2.out.grown hga)
  have HG3 := Lib.hid (grown_trans HG2.out hga)
  clear hga HV2 HG2
  refine (vol_tear_any HV3.out 1 3 _ 2 2 [120, 121] rfl HR.out).mono ?_
  rw [show tearV 2 4 [0, 0, 0, 0, 97, 98, 99, 100] 1 [120, 121] 3 = ([0, 0, 0, 0, 120, 121, 0, 100], 0) from rfl]
  rintro e w4 ⟨rfl, hv4, hg4⟩
  have HV4 := Lib.hid hv4
  have HG4 := Lib.hid (grown_new HG3.out HV3.out.h_ge hg4)
  clear hv4 hg4 HV3 HG3 HR
  go_wp2_with fail
  refine (vol_block_in HV4.out 1 (by omega)).mono ?_
  rintro e w5 ⟨a5, n5, c5, rfl, hn5, hr5, _, hg5⟩
  have hx : blk 4 1 [0, 0, 0, 0, 120, 121, 0, 100] = volFinal := rfl
  rw [hx] at hr5 hn5
  have hstr := string_bytes a5 n5 c5 volFinal w5 hr5 hn5
  rw [show strB volFinal = ⟨#[120, 121, 0, 100]⟩ from rfl] at hstr
  have HV5 := Lib.hid (HV4.out.grown hg5)
  have HG5 := Lib.hid (grown_trans HG4.out hg5)
  clear hr5 hn5 hg5 hx HV4 HG4
  go_wp2_with fail
  clear hstr
  refine (vol_blocks HV5.out).mono ?_
  rintro e w6 ⟨rfl, rfl⟩
  go_wp2_with fail
  refine (vol_size HV5.out).mono ?_
  rintro e w6 ⟨rfl, rfl⟩
  go_wp2_with fail
  go_ret
  exact ⟨rfl, grown_below HG5.out⟩

set_option maxHeartbeats 800000 in
theorem vol_nil_walk (i : Int) (b : Value) (w : World) :
    Calls Try.prog 6 #[.int .i64 i, b] w fun e w' => e = .returned (.bool true) ∧ Below w.heap.size w w' := by
  go_enter Try.func6, Try.ntmps6
  go_wp2_with fail
  refine (vol_blocks_nil _).mono ?_
  rintro e w1 ⟨rfl, rfl⟩
  go_wp2_with fail
  refine (vol_size_nil _).mono ?_
  rintro e w1 ⟨rfl, rfl⟩
  go_wp2_with fail
  refine (vol_block_nil _ _).mono ?_
  rintro e w1 ⟨rfl, rfl⟩
  go_wp2_with fail
  refine (vol_put_nil _ _ _).mono ?_
  rintro e w1 ⟨rfl, rfl⟩
  go_wp2_with fail
  refine (vol_tear_nil _ _ _ _).mono ?_
  rintro e w1 ⟨rfl, rfl⟩
  go_wp2_with fail
  refine (vol_copy_nil _).mono ?_
  rintro e w1 ⟨g, h, N, rfl, hv, hg⟩
  have HV := Lib.hid hv; have HG := Lib.hid (grown_below hg)
  clear hv hg
  go_wp2_with fail
  refine (vol_blocks HV.out).mono ?_
  rintro e w2 ⟨rfl, rfl⟩
  go_wp2_with fail
  refine (vol_works _).mono ?_
  rintro e w2 ⟨rfl, hb⟩
  go_wp2_with fail
  go_ret
  exact ⟨rfl, HG.out.trans (hb.mono HG.out.size)⟩
end Go.Proofs.Ytnikeceeclfnpaa
