/-
  A write is noted; what a disk's methods tell.
-/
import Derived.Test.YtkemocbifancfaaDPend
import Derived.StillTailTactics
namespace Go.Proofs.Ytkemocbifancfaa
open Go.RowKit
set_option maxRecDepth 100000

set_option maxHeartbeats 3200000 in
theorem disk_pend (D : DId) (nb sz N s most : Nat) (S : FaceV) (T : List WriteV) (W : WriteV) (xa : Option Addr) (xn xc : Nat) (w : World) (h : DiskAt w D nb sz N s most S T) (hx : InB w xa xn xc W.b) (hxn : xn ≤ 1000000) (hn : -9223372036854775808 ≤ W.n) (hT : T.length ≤ 1000)
    (hbig : (seenV nb sz s S T).f * s + (seenV nb sz s S T).l.length + xn ≤ 1099511627776) :
    Calls Try.prog 34 #[.pointer (some ⟨D.d, 0, none⟩), .agg #[.int .i64 W.k, .int .i64 W.i, .slice xa xn xc, .int .i64 W.n]] w (OpPost w D nb sz N s most S (T ++ [W]) (.tuple #[])) := by
  have hg1 := World.grownBy_alloc w (.cells #[.int .i64 W.k, .int .i64 W.i, .slice xa xn xc, .int .i64 W.n] 74) none
  have hbx := Box.new w 74 [.int .i64 W.k, .int .i64 W.i, .slice xa xn xc, .int .i64 W.n] w.heap.size rfl
  have HC := Lib.hid (sl_clone_any xa xn xc W.b _ (hx.grown hg1) hxn)
  have HH := Lib.hid h; have HG1 := Lib.hid hg1; have HBX := Lib.hid hbx
  have hlen := hx.len_eq
  have HLEN := Lib.hid (fun _ : True => hlen)
  obtain ⟨bx, hbe⟩ : ∃ bx, w.heap.size = bx := ⟨_, rfl⟩
  have HBE := Lib.hid (fun _ : True => hbe)
  clear h hg1 hx hlen hbe
  have l0 := HBX.out.look
  go_enter Try.func34, Try.ntmps34
  go_wp2_with fail
  generalize w.alloc (.cells #[.int .i64 W.k, .int .i64 W.i, .slice xa xn xc, .int .i64 W.n] 74) = w1 at *
  refine HC.out.mono ?_
  rintro e w2 ⟨a, n, c, rfl, ha, hal, hg2⟩
  rw [HBE.out trivial] at HBX l0 ⊢
  have hb2 := HBX.out.grown hg2
  have l2 := hb2.look
  have o2 := hb2.open
  have hb3 := hb2.set 2 (.slice a n c)
  have hgs := grown_setCell w2 bx 2 (.slice a n c)
  have hg3 : w.grownBy (w2.setCell ⟨bx, 2, none⟩ (.slice a n c)) none := grown_new (grown_trans HG1.out hg2) (by rw [HBE.out trivial]; exact Nat.le_refl _) hgs
  have ha3 : InB (w2.setCell ⟨bx, 2, none⟩ (.slice a n c)) a n c W.b := ha.keptX (X := fun k => k = bx) (RX.of_rb ha.reads (fun ad e _ hb => by
    have h1 := (hal ad e).1
    have h2 := HBX.out.lt
    omega)) (Kept.of_row hgs rfl)
  have HA3 := Lib.hid ha3; have HG3 := Lib.hid hg3; have HB3 := Lib.hid hb3
  have HAL := Lib.hid (show ∀ ad, a = some ad → w.heap.size ≤ ad.block ∧ ad.block < (w2.setCell ⟨bx, 2, none⟩ (.slice a n c)).heap.size from fun ad e => ⟨Nat.le_trans HG1.out.size (hal ad e).1, Nat.lt_of_lt_of_le (hal ad e).2 hgs.size⟩)
  clear ha hal hg2 hb2 hb3 hgs hg3 ha3 l0
  go_wp2_with fail
  generalize w2.setCell ⟨bx, 2, none⟩ (.slice a n c) = w3 at *
  have h3 := HH.out.grown HG3.out
  have hd := grown_drew1 w3
  have c0 := h3.box.cell 0 rfl
  have x0 := HB3.out.look
  have hxr : RX w3 (TX D.i.gt D.i.M D.i.vs) a W.b := RX.of_rb HA3.out.reads (fun ad e _ hk => by
    have h1 := (HAL.out ad e).1
    have h2 := HH.out.fi.tape.far _ hk
    omega)
  have HFD := Lib.hid (face_do D.p 0 ((h3.now.grown hd).cell 0 rfl) ((h3.now.grown hd).cell 1 rfl) (h3.fi.grown hd) W a n c false 0 (HA3.out.grown hd) (hxr.kept (Kept.of_grown hd)) hn (by have h1 := HA3.out.len_eq; have h2 := HLEN.out trivial; omega))
  clear h3 hd hxr l2 o2
  go_region_law (first
    | (go_simp
       go_at_call 35
       refine HFD.out.mono ?_
       rintro e w4 ⟨rfl, i', hf, e1, e2, hi, hk⟩))
  all_goals (
    have hk3 : Kept (FX D.i) w3 w4 := (Kept.of_grown (grown_drew1 w3)).trans hk
    have h3 := HH.out.grown HG3.out
    have hb4 := HB3.out.keptX hk3 (fun e => by have := HH.out.fi.low _ e; have := HBE.out trivial; omega)
    have hd4 := h3.box.keptX hk3 HH.out.sep.2.1
    have t4 := h3.todo.keptX hk3 (fun k e => (HH.out.row k e).2.2.1)
    have HF := Lib.hid hf; have HI := Lib.hid (And.intro e1 (And.intro e2 hi)); have HK3 := Lib.hid hk3
    have T4 := Lib.hid t4; have HD4 := Lib.hid hd4
    have y0 := hb4.look
    have y1 := hd4.look
    have y2 := (hd4.alloc (.cells #[.int .i64 W.k, .int .i64 W.i, .slice a n c, .int .i64 W.n] 74)).look
    have y3 := (hb4.alloc (.cells #[.int .i64 W.k, .int .i64 W.i, .slice a n c, .int .i64 W.n] 74)).look
    have HTL := Lib.hid (fun _ : True => todo_len T D.loc HH.out.lens)
    have HTV := Lib.hid (show D.tv.ownBlock ≠ some D.d from fun e => (HH.out.row _ e).1 rfl)
    clear hf e1 e2 hi hk hk3 h3 hb4 hd4 t4 c0 x0
    go_wp2_with fail
    go_region_law (first
      | (refine step_append_elem rfl _ _ 69 74 rfl Try.underlying69 _ 4 48 info_write rfl (by decide) ((T4.out.grown (World.grownBy_alloc w4 (.cells #[.int .i64 W.k, .int .i64 W.i, .slice a n c, .int .i64 W.n] 74) none)).grown (grown_drew1 _)) rfl (heap_new_drew _ _ _ (by simp)) rfl rfl (fun u hu => by simp only [List.mem_cons, List.not_mem_nil, or_false] at hu; rcases hu with rfl | rfl | rfl | rfl <;> rfl) (by rw [HTL.out trivial]; omega) (by rw [HTL.out trivial]; omega) (Nat.zero_le _) ?_
         intro g' cap w5 ho5 hg5 hk5
         have hd5 := ((HD4.out.grown (World.grownBy_alloc w4 (.cells #[.int .i64 W.k, .int .i64 W.i, .slice a n c, .int .i64 W.n] 74) none)).grown (grown_drew1 _)).kept hg5 HTV.out
         have z0 := hd5.look
         have z1 := hd5.open))
    all_goals (
      have HEND := Lib.hid (HH.out.pend HG3.out HA3.out HAL.out hn HF.out HI.out.1 HI.out.2.1 HI.out.2.2 HK3.out (grown_trans (World.grownBy_alloc w4 (.cells #[.int .i64 W.k, .int .i64 W.i, .slice a n c, .int .i64 W.n] 74) none) (grown_drew1 _)) ho5 hg5 (fun k e => by
        have e2 : g' = k := by simpa [Value.ownBlock] using e
        subst e2
        exact hk5))
      clear ho5 hg5 hk5 hd5 y0 y1 y2 y3
      go_wp2_with fail
      go_end0
      exact HEND.out))

end Go.Proofs.Ytkemocbifancfaa
