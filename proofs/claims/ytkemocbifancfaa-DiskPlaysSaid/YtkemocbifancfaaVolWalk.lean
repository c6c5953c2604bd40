/-
  The walks through the package vol: each function's contract.
-/
import Derived.Test.YtkemocbifancfaaElems
import Derived.Test.YtkemocbifancfaaMem
import Derived.Deep.QuietTactic
import Derived.BigQuiet
import Derived.Deep.RegionLaw
import Derived.Deep.RegionWith
namespace Go.Proofs.Ytkemocbifancfaa
open Go.RowKit
set_option maxRecDepth 100000

/-- A VOLUME AT BLOCK g, its bytes in block h: nb blocks of sz bytes, one behind the other in L. -/
structure VolAt (w : World) (B g h nb sz N : Nat) (L : List UInt8) : Prop where
  mul : nb * sz = N
  box : w.heap[g]? = some (.cells #[.slice (some ⟨h, 0, none⟩) N N, .int .i64 nb, .int .i64 sz] 97 (0, 0))
  row : BlkB w h L
  len : L.length = N
  nb_le : nb ≤ 1024
  sz_le : sz ≤ 4096
  g_ge : B ≤ g
  h_ge : B ≤ h
  ne : g ≠ h

theorem VolAt.c0 {w : World} {B g h nb sz N : Nat} {L : List UInt8} (v : VolAt w B g h nb sz N L) : w.cell? ⟨g, 0, none⟩ = some (.slice (some ⟨h, 0, none⟩) N N) := cell_of_row w g 0 _ _ _ v.box
theorem VolAt.c1 {w : World} {B g h nb sz N : Nat} {L : List UInt8} (v : VolAt w B g h nb sz N L) : w.cell? ⟨g, 1, none⟩ = some (.int .i64 nb) := cell_of_row w g 1 _ _ _ v.box
theorem VolAt.c2 {w : World} {B g h nb sz N : Nat} {L : List UInt8} (v : VolAt w B g h nb sz N L) : w.cell? ⟨g, 2, none⟩ = some (.int .i64 sz) := cell_of_row w g 2 _ _ _ v.box
theorem VolAt.lt {w : World} {B g h nb sz N : Nat} {L : List UInt8} (v : VolAt w B g h nb sz N L) : g < w.heap.size ∧ h < w.heap.size := ⟨(Array.getElem?_eq_some_iff.1 v.box).1, v.row.lt⟩
theorem VolAt.mul_le {w : World} {B g h nb sz N : Nat} {L : List UInt8} (v : VolAt w B g h nb sz N L) : N ≤ 4194304 := by rw [← v.mul]; exact Nat.le_trans (Nat.mul_le_mul v.nb_le v.sz_le) (by decide)
/-- a volume is as it was where neither of its two blocks is written -/
theorem VolAt.kept {w w' : World} {B g h nb sz N : Nat} {L : List UInt8} {row : Option Nat} (v : VolAt w B g h nb sz N L) (hg : w.grownBy w' row) (h1 : some g ≠ row) (h2 : some h ≠ row) : VolAt w' B g h nb sz N L :=
  ⟨v.mul, by rw [hg.block g v.lt.1 h1]; exact v.box, v.row.kept hg h2, v.len, v.nb_le, v.sz_le, v.g_ge, v.h_ge, v.ne⟩
theorem VolAt.grown {w w' : World} {B g h nb sz N : Nat} {L : List UInt8} (v : VolAt w B g h nb sz N L) (hg : w.grownBy w' none) : VolAt w' B g h nb sz N L := v.kept hg (by simp) (by simp)
/-- ... and with other bytes where its second block alone is written -/
theorem VolAt.put {w w' : World} {B g h nb sz N : Nat} {L L' : List UInt8} (v : VolAt w B g h nb sz N L) (hg : w.grownBy w' (some h)) (hr : BlkB w' h L') (hl : L'.length = L.length) : VolAt w' B g h nb sz N L' :=
  ⟨v.mul, by rw [hg.block g v.lt.1 (by simp; exact v.ne)]; exact v.box, hr, by rw [hl]; exact v.len, v.nb_le, v.sz_le, v.g_ge, v.h_ge, v.ne⟩

/-- the bytes of block i -/
def blk (sz i : Nat) (L : List UInt8) : List UInt8 := (L.drop (i * sz)).take sz

theorem vol_blocks {w : World} {B g h nb sz N : Nat} {L : List UInt8} (v : VolAt w B g h nb sz N L) :
    Calls Try.prog 67 #[.pointer (some ⟨g, 0, none⟩)] w fun e w' => e = .returned (.int .i64 nb) ∧ w = w' := by
  have c1 := v.c1
  clear v
  go_enter Try.func67, Try.ntmps67
  go_wp2_with fail
  go_ret
  exact ⟨rfl, rfl⟩
theorem vol_size {w : World} {B g h nb sz N : Nat} {L : List UInt8} (v : VolAt w B g h nb sz N L) :
    Calls Try.prog 68 #[.pointer (some ⟨g, 0, none⟩)] w fun e w' => e = .returned (.int .i64 sz) ∧ w = w' := by
  have c2 := v.c2
  clear v
  go_enter Try.func68, Try.ntmps68
  go_wp2_with fail
  go_ret
  exact ⟨rfl, rfl⟩
theorem vol_blocks_nil (w : World) :
    Calls Try.prog 67 #[.pointer none] w fun e w' => e = .returned (.int .i64 0) ∧ w = w' := by
  go_enter Try.func67, Try.ntmps67
  go_wp2_with fail
  go_ret
  exact ⟨rfl, rfl⟩
theorem vol_size_nil (w : World) :
    Calls Try.prog 68 #[.pointer none] w fun e w' => e = .returned (.int .i64 0) ∧ w = w' := by
  go_enter Try.func68, Try.ntmps68
  go_wp2_with fail
  go_ret
  exact ⟨rfl, rfl⟩

theorem ret_slice {a : Option Addr} {m n c d : Nat} (h : m = n) (k : c = d := by omega) : Ending.returned (.slice a m c) = .returned (.slice a n d) := by rw [h, k]

/-- a draw alone -/
def Drawn (w w' : World) : Prop := ∃ n, w' = w.drewN n
theorem Drawn.grown {w w' : World} (h : Drawn w w') : w.grownBy w' none := by
  obtain ⟨n, rfl⟩ := h
  exact ⟨rfl, rfl, rfl, Nat.le_refl _, fun _ _ _ => rfl⟩

theorem mul_step {nb sz N i : Nat} (hN : nb * sz = N) (hi : i < nb) : i * sz + sz ≤ N := by
  rw [← hN, ← Nat.succ_mul]; exact Nat.mul_le_mul_right sz hi

theorem vol_at {w : World} {B g h nb sz N : Nat} {L : List UInt8} (v : VolAt w B g h nb sz N L) (i lo : Nat) (hi : i < nb) (hlo : i * sz = lo) :
    Calls Try.prog 72 #[.pointer (some ⟨g, 0, none⟩), .int .i64 i] w fun e w' => e = .returned (.slice (some ⟨h, lo, none⟩) sz (N - lo)) ∧ Drawn w w' := by
  have c0 := v.c0; have c2 := v.c2
  have hN := v.mul_le
  have hsz := v.sz_le
  have hnb := v.nb_le
  have hle := mul_step v.mul hi
  rw [hlo] at hle
  have h1 : (i : Int) * (sz : Int) = (lo : Int) := by rw [← hlo, Int.natCast_mul]
  have h2 : ((i : Int) + 1) * (sz : Int) = (lo : Int) + (sz : Int) := by rw [Int.add_mul, h1, Int.one_mul]
  have hz : N = lo → sz = 0 ∧ lo = 0 := by
    intro e
    have : sz = 0 := by omega
    subst this
    exact ⟨rfl, by rw [← hlo, Nat.mul_zero]⟩
  have HZ := Lib.hid hz
  clear v hlo hz
  have b0 : IntKind.i64.wrap (lo : Int) = (lo : Int) := IntWalk.i64_in _ (by omega)
  have b1 : IntKind.i64.wrap ((lo : Int) + (sz : Int)) = (lo : Int) + (sz : Int) := IntWalk.i64_in _ (by omega)
  have b2 : IntKind.i64.wrap ((i : Int) + 1) = (i : Int) + 1 := IntWalk.i64_in _ (by omega)
  have b3 : (0 : Int) ≤ (lo : Int) := by omega
  have b4 : (lo : Int) ≤ (lo : Int) + (sz : Int) := by omega
  have b5 : (lo : Int) + (sz : Int) ≤ (N : Int) := by omega
  by_cases hc : N = lo
  · obtain ⟨rfl, rfl⟩ := HZ.out hc
    subst hc
    go_enter Try.func72, Try.ntmps72
    go_wp2_with fail
    go_quiet (fail)
    go_wp2_with fail
    go_ret
    exact ⟨rfl, _, rfl⟩
  · have hc' : ¬ N = lo := hc
    go_enter Try.func72, Try.ntmps72
    go_wp2_with fail
    go_quiet (fail)
    go_wp2_with fail
    go_ret
    exact ⟨ret_slice (by omega), _, rfl⟩

def NewPost (w : World) (nb sz : Nat) (e : Ending) (w' : World) : Prop :=
  ∃ g h N, e = .returned (.pointer (some ⟨g, 0, none⟩)) ∧ VolAt w' w.heap.size g h nb sz N (List.replicate N 0) ∧ w.grownBy w' none

theorem vol_new (x y : Int) (w : World) :
    Calls Try.prog 39 #[.int .i64 x, .int .i64 y] w (NewPost w (clampN x 1024) (clampN y 4096)) := by
  obtain ⟨mx, hmx⟩ : ∃ m, m = x.toNat := ⟨_, rfl⟩
  obtain ⟨my, hmy⟩ : ∃ m, m = y.toNat := ⟨_, rfl⟩
  obtain ⟨nb, hnb⟩ : ∃ nb, nb = clampN x 1024 := ⟨_, rfl⟩
  obtain ⟨sz, hsz⟩ : ∃ sz, sz = clampN y 4096 := ⟨_, rfl⟩
  have r1 := max_nat x mx hmx
  have r2 := max_nat y my hmy
  have r3 := min_nat mx 1024 nb (by rw [hnb, hmx]; rfl) (by omega)
  have r4 := min_nat my 4096 sz (by rw [hsz, hmy]; rfl) (by omega)
  have l1 : nb ≤ 1024 := by rw [hnb]; unfold clampN; omega
  have l2 : sz ≤ 4096 := by rw [hsz]; unfold clampN; omega
  rw [← hnb, ← hsz]
  clear hnb hsz hmx hmy
  obtain ⟨N, hN⟩ : ∃ N, nb * sz = N := ⟨_, rfl⟩
  have l3 : N ≤ 4194304 := by rw [← hN]; exact Nat.le_trans (Nat.mul_le_mul l1 l2) (by decide)
  have m1 : (nb : Int) * (sz : Int) = (N : Int) := by rw [← hN, Int.natCast_mul]
  have HN := Lib.hid hN
  clear hN
  have b0 : IntKind.i64.wrap (N : Int) = (N : Int) := IntWalk.i64_in _ (by omega)
  have r5 := make_bytes N (by omega)
  go_enter Try.func39, Try.ntmps39
  go_wp2_with fail
  go_region_held3 (fun w' => w'.cell? ⟨w.heap.size, 1, none⟩ = some (.int .i64 nb) ∧ w'.cell? ⟨w.heap.size, 2, none⟩ = some (.int .i64 sz)) (go_keep) (fail)
  go_wp2_with fail
  go_ret
  refine ⟨w.heap.size, w.heap.size + 1, N, rfl, ?_, ?_⟩
  · refine ⟨HN.out, ?_, ?_, by simp, l1, l2, Nat.le_refl _, by omega, by omega⟩
    · exact (heap_alloc_old (w.alloc _) _ (by simp)).trans (heap_alloc_new w _)
    · have := BlkB.zero (w.alloc (.cells #[.slice (some ⟨w.heap.size + 1, 0, none⟩) N N, .int .i64 nb, .int .i64 sz] 97)) N
      rw [World.size_alloc] at this
      exact this
  · exact grown_drew (grown_trans (World.grownBy_alloc w _ none) (World.grownBy_alloc _ _ none))

/-- what 'Block' gives: nothing where there is no such block -/
def blockOf (nb sz : Nat) (i : Int) (L : List UInt8) : List UInt8 := if 0 ≤ i ∧ i < nb then blk sz i.toNat L else []
theorem blockOf_in {nb sz i : Nat} {L : List UInt8} (h : i < nb) : blockOf nb sz (i : Nat) L = blk sz i L := by
  unfold blockOf; rw [if_pos ⟨by omega, by omega⟩]; rfl
theorem blockOf_out {nb sz : Nat} {i : Int} {L : List UInt8} (h : i < 0 ∨ (nb : Int) ≤ i) : blockOf nb sz i L = [] := by
  unfold blockOf; rw [if_neg (by omega)]
theorem splice_all {α : Type} {L cs : List α} (h : L.length = cs.length) : splice L 0 cs = cs := by
  unfold splice; rw [List.take_zero, Nat.zero_add, ← h, List.drop_length]; simp

theorem vol_block_out {w : World} {B g h nb sz N : Nat} {L : List UInt8} (v : VolAt w B g h nb sz N L) (i : Int) (hi : i < 0 ∨ (nb : Int) ≤ i) :
    Calls Try.prog 63 #[.pointer (some ⟨g, 0, none⟩), .int .i64 i] w fun e w' => e = .returned (.slice none 0 0) ∧ w = w' := by
  by_cases h0 : i < 0
  · go_enter Try.func63, Try.ntmps63
    go_wp2_with fail
    go_ret
    exact ⟨rfl, rfl⟩
  · have h1 : (nb : Int) ≤ i := by omega
    go_enter Try.func63, Try.ntmps63
    go_wp2_with fail
    refine (vol_blocks v).mono ?_
    rintro e w' ⟨rfl, rfl⟩
    go_wp2_with fail
    go_ret
    exact ⟨rfl, rfl⟩

theorem vol_block_in {w : World} {B g h nb sz N : Nat} {L : List UInt8} (v : VolAt w B g h nb sz N L) (i : Nat) (hi : i < nb) :
    Calls Try.prog 63 #[.pointer (some ⟨g, 0, none⟩), .int .i64 i] w (BytesPost w (blk sz i L)) := by
  have c2 := v.c2
  have hsz := v.sz_le
  obtain ⟨lo, hlo⟩ : ∃ lo, i * sz = lo := ⟨_, rfl⟩
  have hle := mul_step v.mul hi
  rw [hlo] at hle
  have hln := v.len
  have hlt := v.lt
  have HV := Lib.hid v
  have HLO := Lib.hid hlo
  have HLN := Lib.hid hln
  clear v hlo hln
  have r5 := make_bytes sz (by omega)
  have i0 : ¬ (i : Int) < 0 := by omega
  have i1 : (i : Int) < (nb : Int) := by omega
  go_enter Try.func63, Try.ntmps63
  go_wp2_with fail
  refine (vol_blocks HV.out).mono ?_
  rintro e w' ⟨rfl, rfl⟩
  go_wp2_with fail
  have hv1 := HV.out.grown (World.grownBy_alloc w (.cells (madeCells #[.int .u8 0] sz) 5) none)
  have hz := BlkB.zero w sz
  have HV1 := Lib.hid hv1; have HZ := Lib.hid hz
  have hgr := World.grownBy_alloc w (.cells (madeCells #[.int .u8 0] sz) 5) none
  clear hv1 hz r5
  generalize w.alloc (.cells (madeCells #[.int .u8 0] sz) 5) = w1 at *
  refine (vol_at HV1.out i lo hi HLO.out).mono ?_
  rintro e w2 ⟨rfl, hd⟩
  have hgr2 := hd.grown
  have HV2 := Lib.hid (HV1.out.grown hgr2)
  have HZ2 := Lib.hid (HZ.out.kept hgr2 (by simp))
  have HG := Lib.hid (grown_trans hgr hgr2)
  clear hd hgr hgr2 HV1 HZ
  have HR := Lib.hid (HV2.out.row.reads_cut lo sz)
  have hn : ((L.drop lo).take sz).length = sz := by rw [List.length_take, List.length_drop, HLN.out]; omega
  have HN := Lib.hid hn; clear hn
  go_wp2_with (refine wpList_copy_bytes (o := ⟨some 23, _, _, _, _, _⟩) rfl _ _ rfl _ _ sz _ sz _ rfl rfl w.heap.size 0 (List.replicate sz 0) HZ2.out ((L.drop lo).take sz) HR.out HN.out (fun _ => rfl) (by simp) ?_)
  intro w3 hb3 hg3
  have HB3 := Lib.hid hb3; have HG3 := Lib.hid hg3
  clear hb3 hg3
  go_wp2_with fail
  go_ret
  have hb := HB3.out
  rw [List.take_of_length_le (by rw [HN.out]; omega), splice_all (by rw [List.length_replicate, HN.out])] at hb
  have hx : blk sz i L = (L.drop lo).take sz := by unfold blk; rw [HLO.out]
  refine ⟨_, _, _, rfl, by rw [hx]; exact HN.out, by rw [hx]; exact hb.reads 0, fun ad h => by cases h; exact Nat.le_refl _, grown_new HG.out (Nat.le_refl _) HG3.out⟩
/-- what 'Tear' puts: the first n bytes of b, filled with noughts -/
def whole (sz : Nat) (b : List UInt8) : List UInt8 := b ++ List.replicate (sz - b.length) 0
def tearL (sz lo : Nat) (L b : List UInt8) (k : Nat) : List UInt8 := splice L lo ((whole sz b).take k)

theorem vol_tear_arg {w : World} {B g h nb sz N : Nat} {L : List UInt8} (v : VolAt w B g h nb sz N L) (i n : Int) (b : Value) (hi : i < 0 ∨ (nb : Int) ≤ i) :
    Calls Try.prog 56 #[.pointer (some ⟨g, 0, none⟩), .int .i64 i, b, .int .i64 n] w fun e w' => e = .returned (.int .i64 1) ∧ w = w' := by
  have c1 := v.c1
  clear v
  by_cases h0 : i < 0
  · go_enter Try.func56, Try.ntmps56
    go_wp2_with fail
    go_ret
    exact ⟨rfl, rfl⟩
  · have h1 : (nb : Int) ≤ i := by omega
    go_enter Try.func56, Try.ntmps56
    go_wp2_with fail
    go_ret
    exact ⟨rfl, rfl⟩

theorem vol_tear_nil (w : World) (i n : Int) (b : Value) :
    Calls Try.prog 56 #[.pointer none, .int .i64 i, b, .int .i64 n] w fun e w' => e = .returned (.int .i64 1) ∧ w = w' := by
  go_enter Try.func56, Try.ntmps56
  go_wp2_with fail
  go_ret
  exact ⟨rfl, rfl⟩

theorem vol_tear_long {w : World} {B g h nb sz N : Nat} {L : List UInt8} (v : VolAt w B g h nb sz N L) (i : Nat) (n : Int) (a : Option Addr) (len cap : Nat) (hi : i < nb) (hl : sz < len) :
    Calls Try.prog 56 #[.pointer (some ⟨g, 0, none⟩), .int .i64 i, .slice a len cap, .int .i64 n] w fun e w' => e = .returned (.int .i64 7) ∧ w = w' := by
  have c1 := v.c1; have c2 := v.c2
  clear v
  have i0 : ¬ (i : Int) < 0 := by omega
  have i1 : (i : Int) < (nb : Int) := by omega
  go_enter Try.func56, Try.ntmps56
  go_wp2_with fail
  go_ret
  exact ⟨rfl, rfl⟩

/-- what becomes of a volume that is written -/
def TearPost (w : World) (B g h nb sz N : Nat) (L' : List UInt8) (e : Ending) (w' : World) : Prop :=
  e = .returned (.int .i64 0) ∧ VolAt w' B g h nb sz N L' ∧ w.grownBy w' (some h)

set_option maxHeartbeats 800000 in
theorem vol_tear {w : World} {B g h nb sz N : Nat} {L : List UInt8} (v : VolAt w B g h nb sz N L) (i : Nat) (n : Int) (a : Option Addr) (len cap : Nat) (b : List UInt8)
    (hi : i < nb) (hl : len ≤ sz) (hb : b.length = len) (hr : RB w a b) :
    Calls Try.prog 56 #[.pointer (some ⟨g, 0, none⟩), .int .i64 i, .slice a len cap, .int .i64 n] w (TearPost w B g h nb sz N (tearL sz (i * sz) L b (clampN n sz))) := by
  have c1 := v.c1; have c2 := v.c2
  have hsz := v.sz_le
  obtain ⟨lo, hlo⟩ : ∃ lo, i * sz = lo := ⟨_, rfl⟩
  have hle := mul_step v.mul hi
  rw [hlo] at hle
  have hln := v.len
  have hlt := v.lt
  have hne := v.ne
  have HV := Lib.hid v
  have HLO := Lib.hid hlo
  have HLN := Lib.hid hln
  have HB := Lib.hid hb
  have HR := Lib.hid hr
  clear v hlo hln hb hr
  obtain ⟨mx, hmx⟩ : ∃ m, m = n.toNat := ⟨_, rfl⟩
  have r1 := max_nat n mx hmx
  obtain ⟨k, hk⟩ : ∃ k, k = clampN n sz := ⟨_, rfl⟩
  have hk' : k ≤ sz := by rw [hk]; unfold clampN; omega
  have r2 := min_nat mx sz k (by rw [hk, hmx]; unfold clampN; omega) (by omega)
  have HK := Lib.hid hk
  clear hk hmx
  have r5 := make_bytes sz (by omega)
  have i0 : ¬ (i : Int) < 0 := by omega
  have i1 : (i : Int) < (nb : Int) := by omega
  have i2 : (len : Int) ≤ (sz : Int) := by omega
  go_enter Try.func56, Try.ntmps56
  have hgr := World.grownBy_alloc w (.cells (madeCells #[.int .u8 0] sz) 5) none
  have HZ := Lib.hid (BlkB.zero w sz)
  have HR1 := Lib.hid (HR.out.alloc (.cells (madeCells #[.int .u8 0] sz) 5))
  go_wp2_with (refine wpList_copy_bytes (o := ⟨some 40, _, _, _, _, _⟩) rfl _ _ rfl _ _ sz _ len _ rfl rfl w.heap.size 0 (List.replicate sz 0) HZ.out b HR1.out HB.out (fun _ => rfl) (by simp) ?_)
  clear r5
  intro w1 hb1 hg1
  have hg2 := grown_new hgr (Nat.le_refl _) hg1
  have hv1 := HV.out.grown hg2
  rw [List.take_of_length_le (by rw [HB.out]; exact hl)] at hb1
  have hwh : splice (List.replicate sz 0) 0 b = whole sz b := by
    unfold splice whole; simp
  rw [hwh] at hb1
  clear hgr HZ HR1 hg1 hwh c1 c2
  have c2 := hv1.c2
  have HV1 := Lib.hid hv1
  have HW1 := Lib.hid hb1
  have HG := Lib.hid hg2
  have hsw : w.heap.size < w1.heap.size := hb1.lt
  clear hv1 hb1 hg2
  have q0 : (0 : Int) ≤ (k : Int) := by omega
  have q1 : (k : Int) ≤ (sz : Int) := by omega
  go_wp2_with fail
  have HWn : Hid ((whole sz b).length = sz) := by show (whole sz b).length = sz; unfold whole; rw [List.length_append, List.length_replicate, HB.out]; omega
  have hcut := (HW1.out.reads 0).take k
  rw [List.drop_zero] at hcut
  have HC := Lib.hid hcut
  have HCn : Hid (((whole sz b).take k).length = k) := by show ((whole sz b).take k).length = k; rw [List.length_take, HWn.out]; omega
  clear hcut
  go_region_law (first
      | (go_simp; go_at_call 72; refine (vol_at (HV1.out.grown (by exact ⟨rfl, rfl, rfl, Nat.le_refl _, fun _ _ _ => rfl⟩)) i lo hi HLO.out).mono ?_; rintro e w2 ⟨rfl, nd, rfl⟩)
      | (refine step_copy_bytes (by rfl) _ _ (by rfl) _ _ sz _ k _ (by rfl) (by rfl) h lo L HV1.out.row ((whole sz b).take k) HC.out HCn.out (fun _ => rfl) (by rw [HLN.out]; omega) ?_; intro w3 hb3 hg3))
  all_goals
    have hg4 : w1.grownBy w3 (some h) := ⟨hg3.os, hg3.tape, hg3.output, hg3.size, hg3.block⟩
    rw [List.take_of_length_le (by rw [HCn.out]; omega)] at hb3
    have HB3 := Lib.hid hb3; have HG3 := Lib.hid hg4
    clear hb3 hg3 hg4
    go_wp2_with fail
    go_ret
    have ht : tearL sz (i * sz) L b (clampN n sz) = splice L lo ((whole sz b).take k) := by unfold tearL; rw [HLO.out, HK.out]
    rw [ht]
    exact ⟨rfl, HV1.out.put HG3.out HB3.out (length_splice _ _ _ (by rw [HCn.out, HLN.out]; omega)), grown_trans HG.out HG3.out⟩

end Go.Proofs.Ytkemocbifancfaa
