/-
  The chapter's examples, and WireNil.
-/
import Derived.Test.YthpoccjlhcpoiaaWirePure
namespace Go.Proofs.Ythpoccjlhcpoiaa
open Go.RowKit

/-- what a writer of the call's own writes, is new -/
theorem Wrote.none {w0 w w' : World} {g : Nat} {e : Int} {v v' : Value} {l : List UInt8} {most : Nat} (k : Wrote w g v w' v') (h : w0.grownBy w none) (hg : w0.heap.size ≤ g) (W : WriterAt w g e v l most) : w0.grownBy w' none :=
  ⟨k.kept.os.trans h.os, k.kept.tape.trans h.tape, k.kept.output.trans h.output, Nat.le_trans h.size k.kept.size, fun i hi _ => (k.kept.block i (Nat.lt_of_lt_of_le hi h.size) (by
    rintro (e | e)
    · omega
    · have := (W.row.lt i e).1; omega)).trans (h.block i hi (by simp))⟩

set_option maxHeartbeats 3200000 in
theorem wire_works (w : World) :
    Calls Try.prog 18 #[] w fun r w' => r = .returned (.bool true) ∧ w.grownBy w' none := by
  have kc := fun (w : World) (C : Array Value) (n c g : Nat) (hg : g = w.heap.size) => Joins.run_convert_bytes_const_at (P := Try.prog) w 22 5 C n c g hg Try.underlying22 Try.underlying5
  go_enter Try.func18, Try.ntmps18
  go_wp2_with fail
  refine (wire_new 20 20 rfl w).mono ?_
  rintro r w1 ⟨rfl, hW, hg⟩
  have HW1 := Lib.hid hW; have HG1 := Lib.hid hg
  clear hW hg
  go_wp2_with fail
  refine (wire_num HW1.out 258 (by decide) 2 (Room.of (by decide))).mono ?_
  rintro r w2 ⟨rfl, v2, hW, hk⟩
  rw [show numW 20 (0, []) 258 2 = (0, [2, 1]) from rfl] at hW
  have HW2 := Lib.hid hW; have HG2 := Lib.hid (hk.none HG1.out (Nat.le_refl _) HW1.out)
  clear hW hk HW1 HG1
  go_wp2_with fail
  have HR := Lib.hid (RB.const w2 #[.int .u8 97, .int .u8 98] 5 (2, 2 + 1) [97, 98] w2.heap.size rfl rfl)
  have hga := World.grownBy_alloc w2 (.cells #[.int .u8 97, .int .u8 98] 5 (2, 2 + 1)) none
  have HW3 := Lib.hid (HW2.out.grown hga)
  have HG3 := Lib.hid (grown_trans HG2.out hga)
  clear hga HW2 HG2
  refine (wire_bytes HW3.out _ 2 2 [97, 98] rfl HR.out (Room.of (by decide))).mono ?_
  rintro r w4 ⟨rfl, v4, hW, hk⟩
  rw [show bytesW 20 (0, [2, 1]) [97, 98] = (0, [2, 1, 2, 0, 97, 98]) from rfl] at hW
  have HW4 := Lib.hid hW; have HG4 := Lib.hid (hk.none HG3.out (Nat.le_refl _) HW3.out)
  clear hW hk HW3 HG3 HR
  go_wp2_with fail
  refine (wire_bool HW4.out true (Room.of (by decide))).mono ?_
  rintro r w5 ⟨rfl, v5, hW, hk⟩
  rw [show rawW 20 (0, [2, 1, 2, 0, 97, 98]) [if true = true then 1 else 0] = (0, [2, 1, 2, 0, 97, 98, 1]) from rfl] at hW
  have HW5 := Lib.hid hW; have HG5 := Lib.hid (hk.none HG4.out (Nat.le_refl _) HW4.out)
  clear hW hk HW4 HG4
  go_wp2_with fail
  refine (wire_done HW5.out (Room.of (by decide))).mono ?_
  rintro r w6 ⟨a6, n6, c6, rfl, hn, hrb, _, hg⟩
  rw [if_pos rfl] at hn
  have HR6 := Lib.hid (hrb rfl); have HG6 := Lib.hid (grown_trans HG5.out hg)
  have hn' : n6 = 7 := hn
  subst hn'
  clear hn hrb hg HW5 HG5
  go_wp2_with fail
  refine (wire_read a6 7 c6 _ w6 rfl HR6.out (by decide)).mono ?_
  rintro r w7 ⟨g7, rfl, hge, hR, hg⟩
  have HRD7 := Lib.hid hR; have HG7 := Lib.hid (grown_trans HG6.out hg); have HGE := Lib.hid (Nat.le_trans HG6.out.size hge)
  have hstr := string_bytes a6 7 c6 [2, 1, 2, 0, 97, 98, 1] w7 (HR6.out.old (grown_below hg)) rfl
  rw [show strB [2, 1, 2, 0, 97, 98, 1] = ⟨#[2, 1, 2, 0, 97, 98, 1]⟩ from rfl] at hstr
  clear hR hg hge HR6 HG6
  go_wp2_with fail
  refine (wire_rnum HRD7.out 2).mono ?_
  rw [show numR 0 [2, 1, 2, 0, 97, 98, 1] 2 = (258, 0, [2, 0, 97, 98, 1]) from rfl]
  rintro r w8 ⟨rfl, hR, hg⟩
  have HRD8 := Lib.hid hR; have HG8 := Lib.hid (grown_new HG7.out HGE.out hg)
  clear hR hg HRD7 HG7 hstr
  go_wp2_with fail
  refine (wire_rbytes HRD8.out 2).mono ?_
  rw [show bytesR 0 [2, 0, 97, 98, 1] 2 = ([97, 98], 0, [1]) from rfl]
  rintro r w9 ⟨a9, n9, c9, rfl, hn, hx, hR, hg⟩
  have hn' : n9 = 2 := hn.symm
  subst hn'
  have hstr := string_bytes a9 2 c9 [97, 98] w9 hx.rb rfl
  rw [show strB [97, 98] = ⟨#[97, 98]⟩ from rfl] at hstr
  have HRD9 := Lib.hid hR; have HG9 := Lib.hid (grown_new HG8.out HGE.out hg)
  clear hR hg HRD8 HG8 hn hx
  go_wp2_with fail
  clear hstr
  refine (wire_rbool HRD9.out).mono ?_
  rw [show boolR 0 [1] = (true, 0, []) from rfl]
  rintro r w10 ⟨rfl, hR, hg⟩
  have HRD10 := Lib.hid hR; have HG10 := Lib.hid (grown_new HG9.out HGE.out hg)
  clear hR hg HRD9 HG9
  go_wp2_with fail
  refine (wire_end HRD10.out).mono ?_
  rw [show endR (true, (0 : Int), ([] : List UInt8)).2.1 (true, (0 : Int), ([] : List UInt8)).2.2 = 0 from rfl]
  rintro r w11 ⟨rfl, rfl⟩
  go_wp2_with fail
  go_ret
  exact ⟨rfl, HG10.out⟩

set_option maxHeartbeats 1600000 in
theorem wire_nil_walk (w : World) (x n : Int) :
    Calls Try.prog 7 #[.int .u64 x, .int .i64 n] w fun r w' => r = .returned (.bool true) ∧ Below w.heap.size w w' := by
  go_enter Try.func7, Try.ntmps7
  go_wp2_with fail
  refine (wire_num_nil w x n).mono ?_
  rintro r w1 ⟨rfl, rfl⟩
  go_wp2_with fail
  refine (wire_int_nil w _).mono ?_
  rintro r w1 ⟨rfl, rfl⟩
  go_wp2_with fail
  refine (wire_bool_nil w true).mono ?_
  rintro r w1 ⟨rfl, hg⟩
  have HG1 := Lib.hid hg
  clear hg
  go_wp2_with fail
  refine (wire_bytes_nil _ _).mono ?_
  rintro r w2 ⟨rfl, rfl⟩
  go_wp2_with fail
  refine (wire_raw_nil _ _).mono ?_
  rintro r w2 ⟨rfl, rfl⟩
  go_wp2_with fail
  refine (wire_done_nil _).mono ?_
  rintro r w2 ⟨rfl, rfl⟩
  have HG2 := Lib.hid (grown_trans (grown_trans HG1.out (World.grownBy_alloc _ (.cells #[.int .u8 1] 5) none)) (World.grownBy_alloc _ (.cells #[.int .u8 1, .int .u8 2] 5) none))
  clear HG1
  generalize (((w1.alloc (.cells #[.int .u8 1] 5)).alloc (.cells #[.int .u8 1, .int .u8 2] 5))) = w2 at *
  go_wp2_with fail
  refine (wire_len_nil _).mono ?_
  rintro r w3 ⟨rfl, rfl⟩
  go_wp2_with fail
  refine (wire_rnum_nil _ n).mono ?_
  rintro r w3 ⟨rfl, rfl⟩
  go_wp2_with fail
  refine (wire_rint_nil _).mono ?_
  rintro r w3 ⟨rfl, rfl⟩
  go_wp2_with fail
  refine (wire_rbool_nil _).mono ?_
  rintro r w3 ⟨rfl, rfl⟩
  go_wp2_with fail
  refine (wire_rbytes_nil _ n).mono ?_
  rintro r w3 ⟨rfl, rfl⟩
  go_wp2_with fail
  refine (wire_left_nil _).mono ?_
  rintro r w3 ⟨rfl, rfl⟩
  go_wp2_with fail
  refine (wire_err_nil _).mono ?_
  rintro r w3 ⟨rfl, rfl⟩
  go_wp2_with fail
  refine (wire_end_nil _).mono ?_
  rintro r w3 ⟨rfl, rfl⟩
  go_wp2_with fail
  refine (wire_works _).mono ?_
  rintro r w3 ⟨rfl, hg⟩
  have HG3 := Lib.hid (grown_trans HG2.out hg)
  clear hg HG2
  go_wp2_with fail
  go_ret
  exact ⟨rfl, grown_below HG3.out⟩
end Go.Proofs.Ythpoccjlhcpoiaa
