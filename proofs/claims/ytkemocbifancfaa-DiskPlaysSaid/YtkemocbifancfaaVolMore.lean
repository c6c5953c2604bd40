/-
  The walks through the package vol, second part.
-/
import Derived.Test.YtkemocbifancfaaVolWalk
import Derived.StillTailTactics
namespace Go.Proofs.Ytkemocbifancfaa
open Go.RowKit
set_option maxRecDepth 100000

/-- 'Tear' by its answers: the bytes then, an error's number -/
def tearV (nb sz : Nat) (L : List UInt8) (i : Int) (b : List UInt8) (n : Int) : List UInt8 × Int :=
  if i < 0 ∨ (nb : Int) ≤ i then (L, 1) else if sz < b.length then (L, 7) else (tearL sz (i.toNat * sz) L b (clampN n sz), 0)

def TearAny (w : World) (B g h nb sz N : Nat) (r : List UInt8 × Int) (e : Ending) (w' : World) : Prop :=
  e = .returned (.int .i64 r.2) ∧ VolAt w' B g h nb sz N r.1 ∧ w.grownBy w' (some h)

theorem vol_tear_any {w : World} {B g h nb sz N : Nat} {L : List UInt8} (v : VolAt w B g h nb sz N L) (i n : Int) (a : Option Addr) (len cap : Nat) (b : List UInt8)
    (hb : b.length = len) (hr : RB w a b) :
    Calls Try.prog 56 #[.pointer (some ⟨g, 0, none⟩), .int .i64 i, .slice a len cap, .int .i64 n] w (TearAny w B g h nb sz N (tearV nb sz L i b n)) := by
  by_cases hi : i < 0 ∨ (nb : Int) ≤ i
  · refine (vol_tear_arg v i n _ hi).mono ?_
    rintro e w' ⟨rfl, rfl⟩
    unfold TearAny tearV
    rw [if_pos hi]
    exact ⟨rfl, v, World.grownBy.refl _ _⟩
  · obtain ⟨j, rfl⟩ : ∃ j : Nat, i = j := ⟨i.toNat, by omega⟩
    have hj : j < nb := by omega
    by_cases hl : sz < len
    · refine (vol_tear_long v j n a len cap hj hl).mono ?_
      rintro e w' ⟨rfl, rfl⟩
      unfold TearAny tearV
      rw [if_neg hi, if_pos (by omega)]
      exact ⟨rfl, v, World.grownBy.refl _ _⟩
    · refine (vol_tear v j n a len cap b hj (by omega) hb hr).mono ?_
      rintro e w' ⟨rfl, h1, h2⟩
      unfold TearAny tearV
      rw [if_neg hi, if_neg (by omega)]
      exact ⟨rfl, h1, h2⟩

theorem vol_put_any {w : World} {B g h nb sz N : Nat} {L : List UInt8} (v : VolAt w B g h nb sz N L) (i : Int) (a : Option Addr) (len cap : Nat) (b : List UInt8)
    (hb : b.length = len) (hr : RB w a b) :
    Calls Try.prog 57 #[.pointer (some ⟨g, 0, none⟩), .int .i64 i, .slice a len cap] w (TearAny w B g h nb sz N (tearV nb sz L i b sz)) := by
  have HV := Lib.hid v; have HB := Lib.hid hb; have HR := Lib.hid hr
  clear v hb hr
  generalize hr : tearV nb sz L i b sz = r
  have HRR := Lib.hid hr; clear hr
  go_enter Try.func57, Try.ntmps57
  go_wp2_with fail
  refine (vol_size HV.out).mono ?_
  rintro e w1 ⟨rfl, rfl⟩
  go_wp2_with fail
  refine (vol_tear_any HV.out i sz a len cap b HB.out HR.out).mono ?_
  rw [HRR.out]
  rintro e w1 ⟨rfl, h1, h2⟩
  have H1 := Lib.hid h1; have H2 := Lib.hid h2
  clear h1 h2
  go_wp2_with fail
  go_ret
  exact ⟨rfl, H1.out, H2.out⟩

theorem vol_put_nil (w : World) (i : Int) (b : Value) :
    Calls Try.prog 57 #[.pointer none, .int .i64 i, b] w fun e w' => e = .returned (.int .i64 1) ∧ w = w' := by
  go_enter Try.func57, Try.ntmps57
  go_wp2_with fail
  refine (vol_size_nil _).mono ?_
  rintro e w1 ⟨rfl, rfl⟩
  go_wp2_with fail
  refine (vol_tear_nil _ i 0 b).mono ?_
  rintro e w1 ⟨rfl, rfl⟩
  go_wp2_with fail
  go_ret
  exact ⟨rfl, rfl⟩

theorem vol_block_nil (w : World) (i : Int) :
    Calls Try.prog 63 #[.pointer none, .int .i64 i] w fun e w' => e = .returned (.slice none 0 0) ∧ w = w' := by
  by_cases h0 : i < 0
  · go_enter Try.func63, Try.ntmps63
    go_wp2_with fail
    go_ret
    exact ⟨rfl, rfl⟩
  · have h1 : 0 ≤ i := by omega
    go_enter Try.func63, Try.ntmps63
    go_wp2_with fail
    refine (vol_blocks_nil _).mono ?_
    rintro e w1 ⟨rfl, rfl⟩
    go_wp2_with fail
    go_ret
    exact ⟨rfl, rfl⟩

/-- a copy: a volume of its own that has the same -/
def CopyPostVV (w : World) (nb sz : Nat) (L : List UInt8) (e : Ending) (w' : World) : Prop :=
  ∃ g h N, e = .returned (.pointer (some ⟨g, 0, none⟩)) ∧ VolAt w' w.heap.size g h nb sz N L ∧ w.grownBy w' none

theorem clamp_id {n k : Nat} (h : n ≤ k) : clampN (n : Int) k = n := by unfold clampN; omega

theorem vol_copy_nil (w : World) :
    Calls Try.prog 61 #[.pointer none] w (CopyPostVV w 0 0 []) := by
  go_enter Try.func61, Try.ntmps61
  go_wp2_with fail
  refine (vol_blocks_nil _).mono ?_
  rintro e w1 ⟨rfl, rfl⟩
  go_wp2_with fail
  refine (vol_size_nil _).mono ?_
  rintro e w1 ⟨rfl, rfl⟩
  go_wp2_with fail
  refine (vol_new 0 0 w).mono ?_
  rintro e w1 ⟨g, h, N, rfl, hv, hg⟩
  have hN : N = 0 := by rw [← hv.mul]; rfl
  subst hN
  have HV := Lib.hid hv; have HG := Lib.hid hg
  clear hv hg
  go_wp2_with fail
  go_ret
  exact ⟨g, h, 0, rfl, HV.out, HG.out⟩

theorem vol_copy {w : World} {B g h nb sz N : Nat} {L : List UInt8} (v : VolAt w B g h nb sz N L) :
    Calls Try.prog 61 #[.pointer (some ⟨g, 0, none⟩)] w (CopyPostVV w nb sz L) := by
  have HV := Lib.hid v; clear v
  go_enter Try.func61, Try.ntmps61
  go_wp2_with fail
  refine (vol_blocks HV.out).mono ?_
  rintro e w1 ⟨rfl, rfl⟩
  go_wp2_with fail
  refine (vol_size HV.out).mono ?_
  rintro e w1 ⟨rfl, rfl⟩
  go_wp2_with fail
  refine (vol_new nb sz w).mono ?_
  rw [clamp_id HV.out.nb_le, clamp_id HV.out.sz_le]
  rintro e w1 ⟨g1, h1, N1, rfl, hv1, hg1⟩
  have hN : N1 = N := by rw [← hv1.mul, ← HV.out.mul]
  subst hN
  have HV1 := Lib.hid hv1; have HG1 := Lib.hid hg1
  have HV2 := Lib.hid (HV.out.grown hg1)
  clear hv1 hg1
  have c0 := HV1.out.c0
  have d0 := HV2.out.c0
  go_wp2_with fail
  refine wp_region_still_tail 8 (by kernel_rfl) (by kernel_rfl) ?_
  simp only [List.take_succ_cons, List.take_zero, List.drop_succ_cons, List.drop_zero]
  repeat still_step
  refine wpStill_nil ?_
  change wpList _ _ _ _ _ w1.drew
  have hdr : w1.grownBy w1.drew none := ⟨rfl, rfl, rfl, Nat.le_refl _, fun _ _ _ => rfl⟩
  have HV3 := Lib.hid (HV1.out.grown hdr)
  have HV4 := Lib.hid (HV2.out.grown hdr)
  have HG2 := Lib.hid (grown_trans HG1.out hdr)
  clear hdr HV1 HG1 HV2 c0 d0
  generalize w1.drew = w2 at *
  have hln : L.length = N1 := HV4.out.len
  have HLN := Lib.hid hln; clear hln
  go_wp2_with (refine wpList_copy_bytes (o := ⟨some 19, _, _, _, _, _⟩) rfl _ _ rfl _ _ N1 _ N1 _ rfl rfl h1 0 (List.replicate N1 0) HV3.out.row L (HV4.out.row.reads 0) HLN.out (fun _ => rfl) (by simp) ?_)
  intro w3 hb3 hg3
  rw [List.take_of_length_le (by rw [HLN.out]; omega), splice_all (by rw [List.length_replicate, HLN.out])] at hb3
  have HV5 := Lib.hid (HV3.out.put hg3 hb3 (by rw [List.length_replicate, HLN.out]))
  have HG3 := Lib.hid (grown_new HG2.out HV3.out.h_ge hg3)
  clear hb3 hg3
  go_wp2_with fail
  go_ret
  exact ⟨g1, h1, N1, rfl, HV5.out, HG3.out⟩

end Go.Proofs.Ytkemocbifancfaa
