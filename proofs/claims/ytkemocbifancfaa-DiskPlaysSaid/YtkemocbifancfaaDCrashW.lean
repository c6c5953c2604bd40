/-
  A crash of a disk, walked; a sync.
-/
import Derived.Test.YtkemocbifancfaaDCrash
namespace Go.Proofs.Ytkemocbifancfaa
open Go.RowKit
set_option maxRecDepth 100000

theorem crashV_all (nb sz s : Nat) (F : FaceV) (T : List WriteV) (tear : Int) : crashV nb sz s F T (T.length : Nat) tear = seenV nb sz s F T := by
  unfold crashV
  rw [Int.toNat_natCast, List.drop_length]
set_option maxHeartbeats 3200000 in
theorem disk_crash (D : DId) (nb sz N s most : Nat) (S : FaceV) (T : List WriteV) (keep tear : Int) (w : World) (h : DiskAt w D nb sz N s most S T) (hT : T.length ≤ 1000) (hbig : endV s S + totB T ≤ 549755813888) :
    Calls Try.prog 14 #[.pointer (some ⟨D.d, 0, none⟩), .int .i64 keep, .int .i64 tear] w (OpPost w D nb sz N s most (crashV nb sz s S T keep tear) [] (.tuple #[])) := by
  have HS := Lib.hid (disk_seen h)
  have HH := Lib.hid h
  have HBIG := Lib.hid hbig
  obtain ⟨ta, tc, htv⟩ := h.todo.len
  rw [todo_len _ _ h.lens] at htv
  have c3 := h.box.cell 3 rfl
  rw [htv] at c3
  have HTV := Lib.hid (fun _ : True => htv)
  obtain ⟨n, hn⟩ : ∃ n, T.length = n := ⟨_, rfl⟩
  rw [hn] at c3 hT
  have HN := Lib.hid (fun _ : True => hn)
  clear h htv hn hbig
  go_enter Try.func14, Try.ntmps14
  go_wp2_with fail
  refine HS.out.mono ?_
  rintro r w1 ⟨rfl, rfl⟩
  go_wp2_with fail
  clear c3
  go_loopw [17] (fun iv wr => CrashRel w1 D nb sz N s S T keep tear n iv wr) (fun iv _ => n - (intOf iv).toNat)
  case atStart => exact ⟨0, D.j, Nat.zero_le _, rfl, ⟨by rw [crashK_zero]; exact HH.out.fj, ⟨rfl, rfl⟩, fun _ h => .inl h, Kept.refl _ _⟩⟩
  case round =>
    obtain ⟨k, j, hk, rfl, hst⟩ := hrel
    have HC := Lib.hid hst
    clear hst
    have hbx := HH.out.box.keptX HC.out.kept HH.out.sep.2.2.2.1
    have HBX := Lib.hid hbx
    by_cases hlt : k < n
    · have hkT : k < T.length := by rw [HN.out trivial]; exact hlt
      have hkL : k < D.loc.length := by rw [HH.out.lens]; exact hkT
      have hto := HH.out.todo.keptX HC.out.kept (fun q e => (HH.out.row q e).2.2.2)
      rw [HTV.out trivial] at hto
      obtain ⟨b, o, rfl, hcells⟩ := hto.elems k (by rw [todo_len _ _ HH.out.lens]; exact hkT)
      rw [todo_get T D.loc hkT hkL] at hcells
      obtain ⟨W, hW⟩ : ∃ W, T[k] = W := ⟨_, rfl⟩
      obtain ⟨⟨xa, xn, xc⟩, hX⟩ : ∃ x, D.loc[k] = x := ⟨_, rfl⟩
      rw [hW, hX] at hcells
      have d0 := hcells 0 (by decide)
      have d1 := hcells 1 (by decide)
      have d2 := hcells 2 (by decide)
      have d3 := hcells 3 (by decide)
      simp only [wCells, Nat.add_zero, List.getElem?_cons_zero, List.getElem?_cons_succ] at d0 d1 d2 d3
      have hloc := (HH.out.locs k hkT hkL).keptX (Y := FX j) (HC.out.kept.more (fun q e => .inr (.inr (.inr (.inl e))))) (fun q hq => (HC.out.fx q hq).imp (fun e => .inr (.inr (.inr (.inl e)))) id)
      rw [hW, hX] at hloc
      have hga := World.grownBy_alloc wr (.cells #[.int .i64 W.k, .int .i64 W.i, .slice xa xn xc, .int .i64 W.n] 74) none
      have hgd := grown_trans hga (grown_drew1 _)
      have hs1 : 1 ≤ s := by have := HH.out.fj.tape.seg.1; omega
      have hbn := totB_at hkT
      rw [hW] at hbn
      have hen := crashK_end (tear := tear) (keep := keep) hs1 S T (nb := nb) (sz := sz) k
      have hbl := hloc.inb.len_eq
      simp only at hbl
      have hbig := HBIG.out
      have HFD := Lib.hid (fun (torn : Bool) (t : Int) => face_do D.d 1 (by rw [HC.out.e.1]; exact (hbx.grown hgd).cell 1 rfl) (by rw [HC.out.e.2]; exact (hbx.grown hgd).cell 2 rfl) (HC.out.fj.grown hgd) W xa xn xc torn t (hloc.inb.grown hgd) ((hloc.rx.less (fun q hq => .inr (.inr hq))).kept (Kept.of_grown hgd)) hloc.n (by unfold endV at hen hbig; omega))
      have hbw := Box.new wr 74 [.int .i64 W.k, .int .i64 W.i, .slice xa xn xc, .int .i64 W.n] wr.heap.size rfl
      have lw := hbw.look
      have HGD := Lib.hid hgd
      have HGA := Lib.hid hga
      have HWK := Lib.hid (fun _ : True => hW)
      have HKT := Lib.hid hkT
      have i0 : (0 : Int) ≤ (k : Int) := by omega
      have i1 : (k : Int) < (n : Int) := by omega
      have k1 := grown_cell hga (hbx.cell 1 rfl)
      clear hcells hW hX hloc hga hgd hs1 hbn hen hbl hbig hbw hto hkL hbx
      by_cases t1 : (k : Int) < keep
      · have HE := Lib.hid (fun (r : Ending) (w' : World) (hp : FaceDoPost (wr.alloc (.cells #[.int .i64 W.k, .int .i64 W.i, .slice xa xn xc, .int .i64 W.n] 74)).drew j nb sz N s (doV nb sz s (crashK nb sz s S T keep tear k) W false 0) r w') => HC.out.next HGD.out (r := r) (w' := w') (by rw [crashK_whole HKT.out t1, HWK.out trivial]; exact hp))
        go_wp2_with fail
        go_region_law (first
          | (go_simp
             go_at_call 35
             refine (HFD.out _ _).mono ?_
             rintro e wa hp
             obtain ⟨rfl, hp2⟩ := id hp
             have HP := Lib.hid (HE.out _ _ hp)
             clear hp hp2))
        all_goals (
          obtain ⟨j', hj'⟩ := HP.out
          have HJ := Lib.hid hj'
          clear hj'
          go_wp2_with fail
          exact ⟨⟨k + 1, j', by omega, by go_num, HJ.out⟩, by simp only [intOf]; omega⟩)
      · obtain ⟨m, hm⟩ : ∃ m, keep.toNat = m := ⟨_, rfl⟩
        have m1 := max_nat keep m hm.symm
        have HMK := Lib.hid (fun _ : True => hm)
        clear hm
        by_cases t2 : k = m
        · have HE := Lib.hid (fun (r : Ending) (w' : World) (hp : FaceDoPost (wr.alloc (.cells #[.int .i64 W.k, .int .i64 W.i, .slice xa xn xc, .int .i64 W.n] 74)).drew j nb sz N s (doV nb sz s (crashK nb sz s S T keep tear k) W true tear) r w') => HC.out.next HGD.out (r := r) (w' := w') (by rw [crashK_torn HKT.out (by rw [HMK.out trivial]; exact t2), HWK.out trivial]; exact hp))
          have t3 : ((k : Int) == (m : Int)) = true := by rw [beq_iff_eq]; omega
          clear t2
          go_wp2_with fail
          go_region_law (first
            | (go_simp
               go_at_call 35
               refine (HFD.out _ _).mono ?_
               rintro e wa hp
               obtain ⟨rfl, hp2⟩ := id hp
               have HP := Lib.hid (HE.out _ _ hp)
               clear hp hp2))
          all_goals (
            obtain ⟨j', hj'⟩ := HP.out
            have HJ := Lib.hid hj'
            clear hj'
            go_wp2_with fail
            exact ⟨⟨k + 1, j', by omega, by go_num, HJ.out⟩, by simp only [intOf]; omega⟩)
        · have t3 : ((k : Int) == (m : Int)) = false := by rw [beq_eq_false_iff_ne]; omega
          have HJ := Lib.hid (HC.out.skip HGA.out (by rw [HMK.out trivial]; have := HMK.out trivial; omega))
          clear t2
          go_wp2_with fail
          exact ⟨⟨k + 1, j, by omega, by go_num, HJ.out⟩, by simp only [intOf]; omega⟩
    · obtain rfl : k = n := by omega
      have hfj := HC.out.fj
      have HCP := Lib.hid (face_copy D.d 1 (by rw [HC.out.e.1]; exact hbx.cell 1 rfl) (by rw [HC.out.e.2]; exact hbx.cell 2 rfl) hfj)
      clear hfj hbx
      go_wp2_with fail
      refine HCP.out.mono ?_
      rintro e w2 ⟨i, rfl, hi, hin, hg2⟩
      have hn := HN.out trivial
      have hst := HC.out
      have hi2 := hi
      rw [← hn] at hst hi2
      rw [crashK_all] at hi2
      have HEND := Lib.hid (HH.out.crash hst hi2 hin hg2)
      have hb2 := (HBX.out.grown hg2).alloc (.cells #[.pointer (some ⟨i.gv, 0, none⟩), .pointer (some ⟨i.gt, 0, none⟩)] 68)
      have z0 := hb2.look
      have z1 := hb2.open
      clear hi hi2 hin hg2 hn hst hb2
      go_wp2_with fail
      go_end0
      exact HEND.out
section
variable {w : World} {D : DId} {nb sz N s most : Nat} {S : FaceV} {T : List WriteV} (h : DiskAt w D nb sz N s most S T)
set_option maxHeartbeats 1600000 in
include h in
theorem disk_sync (hT : T.length ≤ 1000) (hbig : endV s S + totB T ≤ 549755813888) : Calls Try.prog 11 #[.pointer (some ⟨D.d, 0, none⟩)] w (OpPost w D nb sz N s most (seenV nb sz s S T) [] (.tuple #[])) := by
  have HS := Lib.hid (disk_seen h)
  have HC := Lib.hid (disk_crash D nb sz N s most S T (T.length : Nat) 0 w h hT hbig)
  rw [crashV_all] at HC
  have c3 := h.box.cell 3 rfl
  obtain ⟨ta, tc, htv⟩ := h.todo.len
  rw [todo_len _ _ h.lens] at htv
  rw [htv] at c3
  generalize T.length = n at *
  clear h htv hbig
  go_enter Try.func11, Try.ntmps11
  go_wp2_with fail
  refine HS.out.mono ?_
  rintro r w1 ⟨rfl, rfl⟩
  go_wp2_with fail
  refine HC.out.mono ?_
  rintro r w2 hp
  obtain ⟨rfl, hp2⟩ := id hp
  have HP := Lib.hid hp
  clear hp hp2
  go_wp2_with fail
  go_end0
  exact HP.out
end

end Go.Proofs.Ytkemocbifancfaa
