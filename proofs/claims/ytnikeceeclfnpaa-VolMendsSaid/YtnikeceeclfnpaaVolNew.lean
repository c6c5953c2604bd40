/-
  The walk through VolNew.
-/
import Derived.Test.YtnikeceeclfnpaaVolSame
import Derived.Test.YtnikeceeclfnpaaVolLaws
namespace Go.Proofs.Ytnikeceeclfnpaa
open Go.RowKit

theorem min_int (x K m : Int) (h : m = min x K) (u : World) : (Builtin.min_ #[3, 3] 3 #[.int .i64 x, .int .i64 K]).run Try.prog u = .ok (.int .i64 m) u := by
  simp only [Builtin.min_, List.foldlM_cons, List.foldlM_nil, Builtin.min2, Sem.run_bind, Sem.run_pure, Result.andThen_ok]
  congr 2
  split <;> omega

/-- a variable of the type Vol that was laid and stored -/
theorem vol_var (w : World) (a : Option Addr) (n c sz : Nat) :
    Box (w.alloc (.cells #[.slice a n c, .int .i64 sz] 29)) w.heap.size 29 [.slice a n c, .int .i64 sz] ∧
    w.grownBy (w.alloc (.cells #[.slice a n c, .int .i64 sz] 29)) none :=
  ⟨Box.new w 29 [.slice a n c, .int .i64 sz] w.heap.size rfl, World.grownBy_alloc w _ none⟩

theorem RefVol.grown {w w' : World} {X : Nat → Prop} {bs : List (List UInt8)} {sz : Nat} {v : Value} (h : RefVol w X bs sz v) (hg : w.grownBy w' none) : RefVol w' X bs sz v := by
  obtain ⟨a, n, c, e, h1, h2, h3⟩ := h
  exact ⟨a, n, c, e, h1, h2.kept (Kept.of_grown hg), h3⟩
theorem RefVol.open {w : World} {X : Nat → Prop} {bs : List (List UInt8)} {sz : Nat} {v : Value} (h : RefVol w X bs sz v) : ∃ a c, v = .agg #[.slice a bs.length c, .int .i64 sz] := by
  obtain ⟨a, n, c, e, h1, h2, h3⟩ := h
  exact ⟨a, c, by rw [e, h1]⟩

theorem grown_of_below {w w' : World} (h : Below w.heap.size w w') : w.grownBy w' none := ⟨h.os, h.tape, h.output, h.size, fun k hk _ => h.block k hk⟩
theorem blk_zero {sz i n : Nat} (h : i * sz + sz ≤ n) : blk sz i (List.replicate n 0) = List.replicate sz (0 : UInt8) := by
  unfold blk
  rw [List.drop_replicate, List.take_replicate]
  congr 1
  omega

def noXs : Nat → Prop := fun _ => False

set_option maxHeartbeats 1600000 in
theorem volNew_walk (x y : Int) (w : World) :
    Calls Try.prog 4 #[.int .i64 x, .int .i64 y] w fun e w' => e = .returned (.bool true) ∧ Below w.heap.size w w' := by
  obtain ⟨m, hm⟩ : ∃ m, m = min y 100 := ⟨_, rfl⟩
  obtain ⟨m', hm'⟩ : ∃ m', m' = min x 3 := ⟨_, rfl⟩
  have r1 := min_int y 100 m hm
  have r2 := min_int x 3 m' hm'
  clear hm hm'
  go_enter Try.func4, Try.ntmps4
  go_wp2_with fail
  refine (vol_new x m w).mono ?_
  rintro e w1 ⟨g, h, N, rfl, hv, hg⟩
  have HV := Lib.hid hv; have HG := Lib.hid hg
  clear hv hg
  go_wp2_with fail
  refine (refv_new x m noXs _ (fun _ _ => id)).mono ?_
  rintro e w2 ⟨V, rfl, hrv, hg2⟩
  obtain ⟨a, c, rfl⟩ := hrv.open
  rw [List.length_replicate] at hrv ⊢
  have hvv := vol_var w2 a (clampN x 1024) c (clampN m 4096)
  have HV2 := Lib.hid ((HV.out.grown hg2).grown hvv.2); have HG2 := Lib.hid (grown_trans (grown_trans HG.out hg2) hvv.2); have HR2 := Lib.hid (hrv.grown hvv.2); have HB2 := Lib.hid hvv.1
  clear hrv hg2 HV HG hvv
  generalize clampN x 1024 = nb at *
  generalize clampN m 4096 = sz at *
  go_wp2_with fail
  generalize w2.alloc (.cells #[.slice a nb c, .int .i64 sz] 29) = w3 at *
  refine (vol_new m' y w3).mono ?_
  rintro e w4 ⟨g', h', N', rfl, hv, hg⟩
  have HV4 := Lib.hid (HV2.out.grown hg); have HG4 := Lib.hid (grown_trans HG2.out hg); have HR4 := Lib.hid (HR2.out.grown hg); have HB4 := Lib.hid (HB2.out.grown hg)
  have HU4 := Lib.hid hv
  clear hv hg HV2 HG2 HR2 HB2
  go_wp2_with fail
  refine (refv_new m' y noXs _ (fun _ _ => id)).mono ?_
  rintro e w5 ⟨V', rfl, hrv, hg2⟩
  obtain ⟨a', c', rfl⟩ := hrv.open
  rw [List.length_replicate] at hrv ⊢
  have hvv := vol_var w5 a' (clampN m' 1024) c' (clampN y 4096)
  have HG5 := Lib.hid (grown_trans (grown_trans HG4.out hg2) hvv.2)
  have HV5 := Lib.hid ((HV4.out.grown hg2).grown hvv.2); have HU5 := Lib.hid ((HU4.out.grown hg2).grown hvv.2); have HR5 := Lib.hid ((HR4.out.grown hg2).grown hvv.2); have HB5 := Lib.hid ((HB4.out.grown hg2).grown hvv.2)
  have HS5 := Lib.hid (hrv.grown hvv.2); have HC5 := Lib.hid hvv.1
  clear hrv hg2 hvv HG4 HV4 HR4 HB4 HU4
  generalize clampN m' 1024 = nb' at *
  generalize clampN y 4096 = sz' at *
  go_wp2_with fail
  generalize w5.alloc (.cells #[.slice a' nb' c', .int .i64 sz'] 29) = w6 at *
  have hd : w6.grownBy w6.drew none := grown_drew (World.grownBy.refl _ _)
  have HV := Lib.hid (HV5.out.grown hd)
  have HU := Lib.hid (HU5.out.grown hd)
  have HS := Lib.hid (HS5.out.grown hd)
  have HG := Lib.hid (grown_trans HG5.out hd)
  have b0 := (HB5.out.grown hd).cell 0 rfl
  have b1 := (HB5.out.grown hd).cell 1 rfl
  have d0 := (HC5.out.grown hd).cell 0 rfl
  have d1 := (HC5.out.grown hd).cell 1 rfl
  clear HV5 HU5 HS5 HR5 HB5 HC5
  have hsame := vol_same HU.out noXs HS.out (List.length_replicate) (by
    intro i hi
    rw [List.length_replicate] at hi
    rw [List.getElem_replicate, blk_zero (mul_step HU.out.mul hi)])
  have HSAME := Lib.hid hsame
  clear hsame
  go_region_held_law (fun w' => w'.cell? ⟨w2.heap.size, 0, none⟩ = some (.slice a nb c) ∧ w'.cell? ⟨w2.heap.size, 1, none⟩ = some (.int .i64 sz) ∧ w'.cell? ⟨w5.heap.size, 0, none⟩ = some (.slice a' nb' c') ∧ w'.cell? ⟨w5.heap.size, 1, none⟩ = some (.int .i64 sz'))
    (first | (refine ⟨?_, ?_, ?_, ?_⟩ <;> assumption) | fail)
    (first
      | (go_at_call_of 16 (Value.pointer (some ⟨g, 0, none⟩)); refine (vol_blocks HV.out).mono ?_; rintro e w' ⟨rfl, rfl⟩)
      | (go_at_call_of 16 (Value.pointer (some ⟨g', 0, none⟩)); refine (vol_blocks HU.out).mono ?_; rintro e w' ⟨rfl, rfl⟩)
      | (go_at_call_of 17 (Value.pointer (some ⟨g, 0, none⟩)); refine (vol_size HV.out).mono ?_; rintro e w' ⟨rfl, rfl⟩)
      | (go_at_call_of 17 (Value.pointer (some ⟨g', 0, none⟩)); refine (vol_size HU.out).mono ?_; rintro e w' ⟨rfl, rfl⟩)
      | (go_at_call 15; refine HSAME.out.mono ?_; rintro e w7 ⟨rfl, hg7⟩; have k0 := grown_cell hg7 b0; have k1 := grown_cell hg7 b1; have k2 := grown_cell hg7 d0; have k3 := grown_cell hg7 d1)
      | (go_at_call 11; refine (vol_works _).mono ?_; rintro e w8 ⟨rfl, hb8⟩; have hg8 := grown_of_below hb8; have l0 := grown_cell hg8 k0; have l1 := grown_cell hg8 k1; have l2 := grown_cell hg8 k2; have l3 := grown_cell hg8 k3))
  go_wp2_with fail
  go_ret
  exact ⟨rfl, grown_below (grown_trans (grown_trans HG.out hg7) hg8)⟩
end Go.Proofs.Ytnikeceeclfnpaa
