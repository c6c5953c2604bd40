/-
  The document's 'Bytes' of masters.
-/
import Derived.Test.YtfmcbnoldcfcbaaDoorMasterRDecW
import Derived.Test.YtfmcbnoldcfcbaaDoorBuf
namespace Go.Proofs.YtfmcbnoldcfcbaaDoor
open Go.RowKit

theorem grown_box {w w' : World} {g : Nat} {T : TypeId} {cs : List Value} (hb : Box w g T cs) (hg : w.grownBy w' none) : ∀ i, w'.cell? ⟨g, i, none⟩ = cs[i]? := (hb.grown hg).look
set_option maxRecDepth 100000 in
set_option maxHeartbeats 1600000 in
theorem ref_mbytes (m : MasterV) (hm : m.ok) (hgd : GoodM m) (w : World) :
    Calls Tryd.prog 9 #[.agg #[.int .u64 (m.gen : Int), .int .u8 (m.area.toNat : Int), .int .i64 m.redo, .int .i64 m.tab, .int .i64 m.size]] w (OwnPost w (masterB m)) := by
  obtain ⟨g1, g2, g3, g4, g5⟩ := hgd
  have hmr := hm.r; have hmt := hm.t; have hms := hm.s
  have HGB := Lib.hid (World.grownBy_alloc w (.cells #[.int .u64 (m.gen : Int), .int .u8 (m.area.toNat : Int), .int .i64 m.redo, .int .i64 m.tab, .int .i64 m.size] 24) none)
  have HB := Lib.hid (Box.new w 24 [.int .u64 (m.gen : Int), .int .u8 (m.area.toNat : Int), .int .i64 m.redo, .int .i64 m.tab, .int .i64 m.size] _ rfl)
  have HN := Lib.hid (fun w' => ref_num_8 m.gen (Nat.lt_of_lt_of_le hm.gen (by decide)) w')
  have HI1 := Lib.hid (fun w' => ref_int m.redo m.redo.toNat (u64_nat _ g3 hmr.2) w')
  have HI2 := Lib.hid (fun w' => ref_int m.tab m.tab.toNat (u64_nat _ (by omega) hmt.2) w')
  have HI3 := Lib.hid (fun w' => ref_int m.size m.size.toNat (u64_nat _ g5 hms.2) w')
  have HS := Lib.hid (fun w' => ref_num_4 (sumN (bodyM m)) (Nat.lt_trans (sumN_lt _) (by decide)) w')
  have hwS : IntKind.u64.wrap (sumN (bodyM m) : Int) = (sumN (bodyM m) : Int) := by have := sumN_lt (bodyM m); exact wrap_u64 _ (by omega) (by omega)
  have hbl := bodyM_length m
  obtain ⟨S, hSS⟩ : ∃ S, sumN (bodyM m) = S := ⟨_, rfl⟩
  have HMB := Lib.hid (show masterB m = bodyM m ++ numB S 4 ++ numB m.gen 8 by unfold masterB; rw [hSS])
  rw [hSS] at HS hwS
  have HSS := Lib.hid hSS
  have HBL := Lib.hid hbl
  clear g1 g2 g3 g4 g5 hmr hmt hms hm hbl hSS
  obtain ⟨wb, hwb⟩ : ∃ wb, w.alloc (.cells #[.int .u64 (m.gen : Int), .int .u8 (m.area.toNat : Int), .int .i64 m.redo, .int .i64 m.tab, .int .i64 m.size] 24) = wb := ⟨_, rfl⟩
  rw [show ([Value.int .u64 (m.gen : Int), .int .u8 (m.area.toNat : Int), .int .i64 m.redo, .int .i64 m.tab, .int .i64 m.size].toArray) = #[.int .u64 (m.gen : Int), .int .u8 (m.area.toNat : Int), .int .i64 m.redo, .int .i64 m.tab, .int .i64 m.size] from rfl] at HB
  rw [hwb] at HB HGB
  have HWB := Lib.hid hwb
  clear hwb
  have hlook := fun w' (hg : wb.grownBy w' none) => grown_box HB.out hg
  go_enter Tryd.func9, Tryd.ntmps9
  go_wp2_with fail
  refine (HN.out _).mono ?_
  rintro r w1 ⟨a1, n1, c1, rfl, _, ho, hg⟩
  rw [HWB.out] at ho hg
  have HB1 := Lib.hid (Buf.mk' (World.grownBy.refl wb none) ho hg)
  clear ho hg
  have hg := HB1.out.2
  go_wp2_with (at_builtin; refine wpList_append_buf (o := ⟨some 11, _, _, _, _, _⟩) rfl _ _ rfl (HB1.out.grown (World.grownBy_alloc _ _ none)) rfl (RB.one _ _ rfl m.area _ _) rfl rfl (by rw [numB_length]; decide) ?_)
  intro a2 n2 c2 w2 hb2
  have HB2 := Lib.hid hb2
  clear hb2 hg
  have hg := HB2.out.2
  go_wp2_with fail
  refine (HI1.out _).mono ?_
  rintro r w3 ⟨a3, n3, c3, rfl, hn3, ho3, hg3⟩
  have HR3 := Lib.hid (RB.of_own ho3); have HN3 := Lib.hid hn3; have HB3 := Lib.hid (HB2.out.grown hg3)
  clear ho3 hg3 hg hn3
  go_wp2_with (at_builtin; refine wpList_append_buf (o := ⟨some 16, _, _, _, _, _⟩) rfl _ _ rfl HB3.out rfl HR3.out rfl HN3.out (by rw [← HN3.out]; simp [numB_length]) ?_)
  intro a4 n4 c4 w4 hb4
  have HB4 := Lib.hid hb4
  clear hb4
  have hg := HB4.out.2
  go_wp2_with fail
  refine (HI2.out _).mono ?_
  rintro r w5 ⟨a5, n5, c5, rfl, hn5, ho5, hg5⟩
  have HR5 := Lib.hid (RB.of_own ho5); have HN5 := Lib.hid hn5; have HB5 := Lib.hid (HB4.out.grown hg5)
  clear ho5 hg5 hg hn5
  go_wp2_with (at_builtin; refine wpList_append_buf (o := ⟨some 21, _, _, _, _, _⟩) rfl _ _ rfl HB5.out rfl HR5.out rfl HN5.out (by rw [← HN5.out]; simp [numB_length]) ?_)
  intro a6 n6 c6 w6 hb6
  have HB6 := Lib.hid hb6
  clear hb6
  have hg := HB6.out.2
  go_wp2_with fail
  refine (HI3.out _).mono ?_
  rintro r w7 ⟨a7, n7, c7, rfl, hn7, ho7, hg7⟩
  have HR7 := Lib.hid (RB.of_own ho7); have HN7 := Lib.hid hn7; have HB7 := Lib.hid (HB6.out.grown hg7)
  clear ho7 hg7 hg hn7
  go_wp2_with (at_builtin; refine wpList_append_buf (o := ⟨some 26, _, _, _, _, _⟩) rfl _ _ rfl HB7.out rfl HR7.out rfl HN7.out (by rw [← HN7.out]; simp [numB_length]) ?_)
  intro a8 n8 c8 w8 hb8
  have HB8 := Lib.hid (show Buf wb w8 (.slice a8 n8 c8) (bodyM m) from hb8)
  clear hb8
  have hg := HB8.out.2
  go_wp2_with fail
  refine (rsum_any a8 n8 c8 (bodyM m) w8 HB8.out.len (by rw [← HB8.out.len, HBL.out]; decide) HB8.out.rb).mono ?_
  rintro r w9 ⟨rfl, rfl⟩
  rw [sumN_eq, HSS.out]
  go_wp2_with fail
  refine (HS.out _).mono ?_
  rintro r w9 ⟨a9, n9, c9, rfl, hn9, ho9, hg9⟩
  have HR9 := Lib.hid (RB.of_own ho9); have HN9 := Lib.hid hn9; have HB9 := Lib.hid (HB8.out.grown hg9)
  clear ho9 hg9 hg hn9
  go_wp2_with (at_builtin; refine wpList_append_buf (o := ⟨some 32, _, _, _, _, _⟩) rfl _ _ rfl HB9.out rfl HR9.out rfl HN9.out (by rw [← HN9.out, numB_length, HBL.out]; decide) ?_)
  intro a10 n10 c10 w10 hb10
  have HB10 := Lib.hid hb10
  clear hb10
  have hg := HB10.out.2
  go_wp2_with fail
  refine (HN.out _).mono ?_
  rintro r w11 ⟨a11, n11, c11, rfl, hn11, ho11, hg11⟩
  have HR11 := Lib.hid (RB.of_own ho11); have HN11 := Lib.hid hn11; have HB11 := Lib.hid (HB10.out.grown hg11)
  clear ho11 hg11 hg hn11
  go_wp2_with (at_builtin; refine wpList_append_buf (o := ⟨some 37, _, _, _, _, _⟩) rfl _ _ rfl HB11.out rfl HR11.out rfl HN11.out (by rw [← HN11.out, numB_length, List.length_append, HBL.out, numB_length]; decide) ?_)
  intro a12 n12 c12 w12 hb12
  have HB12 := Lib.hid hb12
  clear hb12
  go_wp2_with fail
  go_ret
  rw [HMB.out]
  exact HB12.out.post.base HGB.out

end Go.Proofs.YtfmcbnoldcfcbaaDoor
