/-
  A block that is put, in whose midst a crash comes.
-/
import Derived.Test.YtkemocbifancfaaDTwins
import Derived.Test.YtkemocbifancfaaDTail
namespace Go.Proofs.Ytkemocbifancfaa
open Go.RowKit
set_option maxRecDepth 100000

def BlkPost (w : World) (l : List UInt8) (e : Ending) (w' : World) : Prop :=
  ∃ a n c, e = .returned (.slice a n c) ∧ InB w' a n c l ∧ w.grownBy w' none
set_option maxHeartbeats 1600000 in
theorem vol_blk_in {w : World} {B g h nb sz N : Nat} {L : List UInt8} (v : VolAt w B g h nb sz N L) (i : Nat) (hi : i < nb) :
    Calls Try.prog 63 #[.pointer (some ⟨g, 0, none⟩), .int .i64 i] w (BlkPost w (blk sz i L)) := by
  have c2 := v.c2
  have hsz := v.sz_le
  obtain ⟨lo, hlo⟩ : ∃ lo, i * sz = lo := ⟨_, rfl⟩
  have hle := mul_step v.mul hi
  rw [hlo] at hle
  have hln := v.len
  have hlt := v.lt
  have HV := Lib.hid v
  have HLO := Lib.hid hlo
  have HLN := Lib.hid hln
  clear v hlo hln
  have r5 := make_bytes sz (by omega)
  have i0 : ¬ (i : Int) < 0 := by omega
  have i1 : (i : Int) < (nb : Int) := by omega
  go_enter Try.func63, Try.ntmps63
  go_wp2_with fail
  refine (vol_blocks HV.out).mono ?_
  rintro e w' ⟨rfl, rfl⟩
  go_wp2_with fail
  have hv1 := HV.out.grown (World.grownBy_alloc w (.cells (madeCells #[.int .u8 0] sz) 5) none)
  have hz := BlkB.zero w sz
  have HV1 := Lib.hid hv1; have HZ := Lib.hid hz
  have hgr := World.grownBy_alloc w (.cells (madeCells #[.int .u8 0] sz) 5) none
  clear hv1 hz r5
  generalize w.alloc (.cells (madeCells #[.int .u8 0] sz) 5) = w1 at *
  refine (vol_at HV1.out i lo hi HLO.out).mono ?_
  rintro e w2 ⟨rfl, hd⟩
  have hgr2 := hd.grown
  have HV2 := Lib.hid (HV1.out.grown hgr2)
  have HZ2 := Lib.hid (HZ.out.kept hgr2 (by simp))
  have HG := Lib.hid (grown_trans hgr hgr2)
  clear hd hgr hgr2 HV1 HZ
  have HR := Lib.hid (HV2.out.row.reads_cut lo sz)
  have hn : ((L.drop lo).take sz).length = sz := by rw [List.length_take, List.length_drop, HLN.out]; omega
  have HN := Lib.hid hn; clear hn
  go_wp2_with (refine wpList_copy_bytes (o := ⟨some 23, _, _, _, _, _⟩) rfl _ _ rfl _ _ sz _ sz _ rfl rfl w.heap.size 0 (List.replicate sz 0) HZ2.out ((L.drop lo).take sz) HR.out HN.out (fun _ => rfl) (by simp) ?_)
  intro w3 hb3 hg3
  have HB3 := Lib.hid hb3; have HG3 := Lib.hid hg3
  clear hb3 hg3
  go_wp2_with fail
  go_ret
  have hb := HB3.out
  rw [List.take_of_length_le (by rw [HN.out]; omega), splice_all (by rw [List.length_replicate, HN.out])] at hb
  have hx : blk sz i L = (L.drop lo).take sz := by unfold blk; rw [HLO.out]
  exact ⟨_, _, _, rfl, ⟨by rw [hx]; exact HN.out, Nat.le_refl _, by unfold maxLen; omega, fun h => (by cases h), by rw [hx]; exact hb.reads 0⟩, grown_new HG.out (Nat.le_refl _) HG3.out⟩
theorem vol_blk {w : World} {B g h nb sz N : Nat} {L : List UInt8} (v : VolAt w B g h nb sz N L) (i : Int) : Calls Try.prog 63 #[.pointer (some ⟨g, 0, none⟩), .int .i64 i] w (BlkPost w (blockOf nb sz i L)) := by
  by_cases hi : i < 0 ∨ (nb : Int) ≤ i
  · refine (vol_block_out v i hi).mono ?_
    rintro r w' ⟨rfl, rfl⟩
    rw [blockOf_out hi]
    exact ⟨none, 0, 0, rfl, ⟨rfl, Nat.le_refl _, Nat.zero_le _, fun _ => rfl, RB.nil _ _⟩, World.grownBy.refl _ _⟩
  · obtain ⟨j, rfl⟩ : ∃ j : Nat, i = j := ⟨i.toNat, by omega⟩
    rw [blockOf_in (by omega)]
    exact vol_blk_in v j (by omega)
section
variable {w : World} {i : FId} {nb sz N s : Nat} {F : FaceV} (a o : Nat) (c0 : w.cell? ⟨a, o, none⟩ = some (.pointer (some ⟨i.gv, 0, none⟩))) (c1 : w.cell? ⟨a, o + 1, none⟩ = some (.pointer (some ⟨i.gt, 0, none⟩))) (h : FaceAt w i nb sz N s F)
include c0 h in
theorem face_blk (q : Int) : Calls Try.prog 38 #[.pointer (some ⟨a, o, none⟩), .int .i64 q] w (BlkPost w (blockOf nb sz q F.L)) := by
  have HH := Lib.hid (vol_blk h.vol q)
  obtain ⟨z, hz⟩ : ∃ z, blockOf nb sz q F.L = z := ⟨_, rfl⟩
  rw [hz] at HH ⊢
  clear h hz
  go_enter Try.func38, Try.ntmps38
  go_wp2_with fail
  refine HH.out.mono ?_
  rintro r w1 ⟨x, n, c, rfl, h1, h2⟩
  have HO := Lib.hid (And.intro h1 h2)
  clear h1 h2
  go_wp2_with fail
  go_ret
  exact ⟨x, n, c, rfl, HO.out⟩
end
section
variable {w : World} {D : DId} {nb sz N s most : Nat} {S : FaceV} {T : List WriteV} (h : DiskAt w D nb sz N s most S T)
include h in
theorem disk_blk (x : Int) : Calls Try.prog 19 #[.pointer (some ⟨D.d, 0, none⟩), .int .i64 x] w (BlkPost w (blockOf nb sz x (seenV nb sz s S T).L)) := by
  have HF := Lib.hid (face_blk D.p 0 (h.now.cell 0 rfl) h.fi x)
  have HS := Lib.hid (disk_seen h)
  obtain ⟨zz, hz⟩ : ∃ zz, blockOf nb sz x (seenV nb sz s S T).L = zz := ⟨_, rfl⟩
  rw [hz] at HF ⊢
  clear hz
  clear h
  go_enter Try.func19, Try.ntmps19
  go_wp2_with fail
  refine HS.out.mono ?_
  rintro r w1 ⟨rfl, rfl⟩
  go_wp2_with fail
  refine HF.out.mono ?_
  rintro r w2 ⟨x1, n, c, rfl, h1, h2⟩
  have HO := Lib.hid (And.intro h1 h2)
  clear h1 h2
  go_wp2_with fail
  go_ret
  exact ⟨x1, n, c, rfl, HO.out⟩
end
section
variable {w0 w : World} {nb sz N s most : Nat} {P : List (Nat × FaceV × List WriteV)} (h : Ships w0 w nb sz N s most P) {i p : Nat} {S : FaceV} {T : List WriteV} (e : P[i]? = some (p, S, T))
include h e
theorem ships_block (x : Int) : Calls Try.prog 19 #[.pointer (some ⟨p, 0, none⟩), .int .i64 x] w (BlkPost w (blockOf nb sz x (seenV nb sz s S T).L)) := by
  obtain ⟨D, rfl, hl, _, _⟩ := h.get e
  exact disk_blk hl.disk x
end

theorem splice2 {L c1 c2 : List UInt8} {lo : Nat} (h : c1.length ≤ c2.length) (hl : lo + c2.length ≤ L.length) : splice (splice L lo c1) lo c2 = splice L lo c2 := by
  have h1 := splice_length L c1 lo (by omega)
  refine List.ext_getElem? fun m => ?_
  rw [splice_get _ _ _ _ (by omega), splice_get _ _ _ _ (by omega), splice_get _ _ _ _ (by omega)]
  split
  · rfl
  · split
    · rfl
    · rw [if_neg (by omega)]
theorem whole_len {sz : Nat} {b : List UInt8} (h : b.length ≤ sz) : (whole sz b).length = sz := by
  unfold whole
  rw [List.length_append, List.length_replicate]
  omega
theorem blk_len {nb sz N i : Nat} {L : List UInt8} (hN : nb * sz = N) (hL : L.length = N) (hi : i < nb) : (blk sz i L).length = sz := by
  have := mul_step hN hi
  unfold blk
  rw [List.length_take, List.length_drop]
  omega
/-- a block that was torn -/
theorem blk_torn {nb sz N i k : Nat} {L b : List UInt8} (hN : nb * sz = N) (hL : L.length = N) (hi : i < nb) (hb : b.length ≤ sz) (hk : k ≤ sz) : blk sz i (tearL sz (i * sz) L b k) = (whole sz b).take k ++ (blk sz i L).drop k := by
  have hm := mul_step hN hi
  have hw := whole_len hb
  have hl : ((whole sz b).take k).length = k := by rw [List.length_take]; omega
  refine List.ext_getElem? fun m => ?_
  rw [blk_get, tearL, splice_get _ _ _ _ (by rw [hl]; omega), hl, List.getElem?_append, hl, List.getElem?_drop, blk_get]
  by_cases h1 : m < k
  · rw [if_pos (by omega), if_neg (by omega), if_pos (by omega), if_pos h1, show i * sz + m - i * sz = m by omega]
  · rw [if_neg h1, show k + (m - k) = m by omega]
    by_cases h2 : m < sz
    · rw [if_pos h2, if_pos h2, if_neg (by omega), if_neg (by omega)]
    · rw [if_neg h2, if_neg h2]
theorem tearV_in {nb sz : Nat} {L b : List UInt8} {i : Nat} (hi : i < nb) (hb : b.length ≤ sz) (n : Int) : (tearV nb sz L (i : Nat) b n).1 = tearL sz (i * sz) L b (clampN n sz) := by
  unfold tearV
  rw [if_neg (by omega), if_neg (by omega), Int.toNat_natCast]
theorem clamp_self (sz : Nat) : clampN (sz : Int) sz = sz := by unfold clampN; omega
theorem clamp_le (n : Int) (sz : Nat) : clampN n sz ≤ sz := by unfold clampN; omega
/-- the three blocks -/
theorem blocks_torn {nb sz N i : Nat} {L b : List UInt8} (hN : nb * sz = N) (hL : L.length = N) (hi : i < nb) (hb : b.length ≤ sz) (n : Int) :
    blk sz i (tearV nb sz L (i : Nat) b n).1 = (blk sz i (tearV nb sz L (i : Nat) b sz).1).take (clampN n sz) ++ (blk sz i L).drop (clampN n sz) := by
  have hw := whole_len hb
  rw [tearV_in hi hb, tearV_in hi hb, blk_torn hN hL hi hb (clamp_le n sz), blk_torn hN hL hi hb (clamp_le _ sz), clamp_self, List.drop_eq_nil_of_le (Nat.le_of_eq (blk_len hN hL hi)), List.append_nil, List.take_of_length_le (Nat.le_of_eq hw)]
/-- put whole again, it is as it was -/
theorem mend_blk {nb sz N i : Nat} {L b : List UInt8} (hN : nb * sz = N) (hL : L.length = N) (hi : i < nb) (hb : b.length ≤ sz) (n : Int) : (tearV nb sz (tearV nb sz L (i : Nat) b n).1 (i : Nat) (blk sz i L) sz).1 = L := by
  have hm := mul_step hN hi
  have hl := blk_len hN hL hi
  have hw := whole_len hb
  have hw2 := whole_len (Nat.le_of_eq hl)
  have hck := clamp_le n sz
  have hwe : whole sz (blk sz i L) = blk sz i L := by
    unfold whole
    rw [hl, Nat.sub_self]
    exact List.append_nil _
  rw [tearV_in hi hb, tearV_in hi (Nat.le_of_eq hl), clamp_self]
  unfold tearL
  rw [hwe, List.take_of_length_le (Nat.le_of_eq hl), splice2 (by rw [List.length_take]; omega) (by omega)]
  refine List.ext_getElem? fun m => ?_
  rw [splice_get _ _ _ _ (by omega), hl]
  split
  · rfl
  · split
    · rw [blk_get, if_pos (by omega)]
      congr 1
      omega
    · rfl
theorem putE_ok {nb sz : Nat} {i : Int} {n : Nat} (h : putE nb sz i n = 0) : ∃ j : Nat, i = (j : Int) ∧ j < nb ∧ n ≤ sz := by
  unfold putE at h
  split at h
  · omega
  · split at h
    · omega
    · exact ⟨i.toNat, by omega, by omega, by omega⟩
theorem putE_in {nb sz j n : Nat} (hj : j < nb) (hn : n ≤ sz) : putE nb sz (j : Int) n = 0 := by
  unfold putE
  rw [if_neg (by omega), if_neg (by omega)]
theorem putT_in {nb sz j : Nat} {b : List UInt8} (hj : j < nb) (hn : b.length ≤ sz) (T : List WriteV) : putT nb sz (j : Int) b T = T ++ [⟨0, j, b, 0⟩] := by
  unfold putT
  rw [if_pos (putE_in hj hn)]
theorem putT_not {nb sz : Nat} {q : Int} {b : List UInt8} (h : putE nb sz q b.length ≠ 0) (T : List WriteV) : putT nb sz q b T = T := by
  unfold putT
  rw [if_neg h]
theorem seen_put (nb sz s : Nat) (L : List UInt8) (f : Nat) (l b : List UInt8) (i : Int) : seenV nb sz s ⟨L, f, l⟩ [⟨0, i, b, 0⟩] = ⟨(tearV nb sz L i b sz).1, f, l⟩ := by
  show doV nb sz s ⟨L, f, l⟩ ⟨0, i, b, 0⟩ false 0 = _
  simp [doV]
theorem crash_put (nb sz s : Nat) (L : List UInt8) (f : Nat) (l b : List UInt8) (i t : Int) : crashV nb sz s ⟨L, f, l⟩ [⟨0, i, b, 0⟩] 0 t = ⟨(tearV nb sz L i b t).1, f, l⟩ := by
  show doV nb sz s ⟨L, f, l⟩ ⟨0, i, b, 0⟩ true t = _
  simp [doV]
theorem strB_drop (a : List UInt8) (n : Nat) : (strB a).extract n (strB a).size = strB (a.drop n) := by
  rw [strB_size]
  refine ByteArray.ext ?_
  simp only [strB, ByteArray.data_extract]
  refine Array.ext' ?_
  simp
  rw [List.take_of_length_le (by simp)]

theorem one_act {w0 w : World} {X : DActV} (ho : X.ok w0) (hg : w0.grownBy w none) : ∀ i, i < 1 → DActAt (w.alloc (.cells #[.int .u8 X.k, .int .i64 X.i, .int .i64 X.t, .int .i64 X.n, .slice X.a X.len X.cap] 27)) (some ⟨w.heap.size, 0, none⟩) i X := by
  have hb := Box.new w 27 [.int .u8 X.k, .int .i64 X.i, .int .i64 X.t, .int .i64 X.n, .slice X.a X.len X.cap] w.heap.size rfl
  have hg2 := grown_trans hg (World.grownBy_alloc w (.cells #[.int .u8 X.k, .int .i64 X.i, .int .i64 X.t, .int .i64 X.n, .slice X.a X.len X.cap] 27) none)
  intro i hi
  match i, hi with
  | 0, _ => exact ⟨_, 0, rfl, hb.cell 0 rfl, hb.cell 1 rfl, hb.cell 2 rfl, hb.cell 3 rfl, hb.cell 4 rfl, ho.grown hg2⟩
theorem put_cases (nb sz : Nat) (q : Int) (n : Nat) : ∃ E : Int, putE nb sz q n = E ∧ (E = 0 ∨ ((E == (0 : Int)) = false ∧ decide (E = 0) = false ∧ ¬ E = 0)) := by
  refine ⟨_, rfl, ?_⟩
  by_cases h : putE nb sz q n = 0
  · exact .inl h
  · exact .inr ⟨by simpa using h, by simpa using h, h⟩
set_option maxHeartbeats 3200000 in
theorem diskWhole_walk (a : Option Addr) (len cap : Nat) (A : Nat → DActV) (xk xi xt xn : Int) (xa : Option Addr) (xlen xcap : Nat) (xb : List UInt8) (w : World) (hl : len ≤ maxLen) (hA : ∀ i, i < len → DActAt w a i (A i)) (ho : (⟨xk, xi, xt, xn, xa, xlen, xcap, xb⟩ : DActV).ok w) :
    Calls Try.prog 5 #[.slice a len cap, .agg #[.int .u8 xk, .int .i64 xi, .int .i64 xt, .int .i64 xn, .slice xa xlen xcap]] w (fun r w' => r = .returned (.bool true) ∧ Below w.heap.size w w') := by
  have HF := Lib.hid (fun u (hu : w.grownBy u none) => disk_few u a len cap A hl (fun i hi => (hA i hi).grown hu))
  obtain ⟨nb, sz, s, most, hz, hp⟩ : ∃ nb sz s most : Nat, sz = 32 ∧ ∀ u, w.grownBy u none → len ≤ 40 → (∀ j, j < len → (A j).len ≤ 300) → Calls Try.prog 10 #[.slice a len cap] u (PlayedPost u nb sz s most len) :=
    ⟨4, 32, 64, 4000, rfl, fun u hu h40 h3 => disk_played u a len cap A h40 (fun i hi => (hA i hi).grown hu) h3⟩
  have HP := Lib.hid hp; have HZ := Lib.hid (fun _ : True => hz)
  have HX := Lib.hid ho
  clear hl hA ho hp hz
  have hg1 := World.grownBy_alloc w (.cells #[.int .u8 xk, .int .i64 xi, .int .i64 xt, .int .i64 xn, .slice xa xlen xcap] 27) none
  have hbx := Box.new w 27 [.int .u8 xk, .int .i64 xi, .int .i64 xt, .int .i64 xn, .slice xa xlen xcap] w.heap.size rfl
  go_enter Try.func5, Try.ntmps5
  go_wp2_with fail
  obtain ⟨w1, hw1⟩ : ∃ u, w.alloc (.cells #[.int .u8 xk, .int .i64 xi, .int .i64 xt, .int .i64 xn, .slice xa xlen xcap] 27) = u := ⟨_, rfl⟩
  rw [hw1] at hg1 hbx ⊢
  clear hw1
  have HG1 := Lib.hid hg1; have HB1 := Lib.hid hbx
  obtain ⟨g, hgg⟩ : ∃ g, w.heap.size = g := ⟨_, rfl⟩
  rw [hgg] at HB1 ⊢
  clear hg1 hbx
  refine (HF.out w1 HG1.out).mono ?_
  rintro r w3 ⟨f1, rfl, hg3, hf1⟩
  have HG3 := Lib.hid (grown_trans HG1.out hg3)
  have HB3 := Lib.hid (HB1.out.grown hg3)
  have HFF := Lib.hid hf1
  have HGG := Lib.hid (fun _ : True => hgg)
  have l1 := HB3.out.look
  clear hg3 hf1 HB1 HG1 hgg
  cases f1 with
  | false =>
    go_wp2_with fail
    refine (disk_works w3).mono ?_
    rintro r w4 ⟨rfl, hg4⟩
    have HG4 := Lib.hid hg4
    clear hg4
    go_wp2_with fail
    go_ret
    exact ⟨rfl, grown_below (grown_trans HG3.out HG4.out)⟩
  | true =>
    have HFT := Lib.hid (HFF.out rfl)
    clear HFF
    go_wp2_with fail
    have hga := World.grownBy_alloc w3 (.cells #[.int .u8 xk, .int .i64 xi, .int .i64 xt, .int .i64 xn, .slice xa xlen xcap] 27) none
    refine (disk_few _ _ 1 1 (fun _ => ⟨xk, xi, xt, xn, xa, xlen, xcap, xb⟩) (by unfold maxLen; omega) (one_act HX.out HG3.out)).mono ?_
    rintro r w4 ⟨f2, rfl, hg4, hf2⟩
    have HG4 := Lib.hid (grown_trans HG3.out (grown_trans hga hg4))
    have HF2 := Lib.hid hf2
    have HB4 := Lib.hid (HB3.out.grown (grown_trans hga hg4))
    clear hga hg4 hf2 HB3 l1
    cases f2 with
    | false =>
      go_wp2_with fail
      refine (disk_works w4).mono ?_
      rintro r w5 ⟨rfl, hg5⟩
      have HG5 := Lib.hid hg5
      clear hg5
      go_wp2_with fail
      go_ret
      exact ⟨rfl, grown_below (grown_trans HG4.out HG5.out)⟩
    | true =>
      have HF2T := Lib.hid (HF2.out rfl)
      clear HF2
      go_wp2_with fail
      refine (HP.out w4 HG4.out HFT.out.1 HFT.out.2).mono ?_
      rintro r w5 ⟨d, rfl, D, N, S, T, rfl, hlv, hT, hbg⟩
      have h40 := HFT.out.1
      have HT := Lib.hid (show T.length ≤ 1000 by omega)
      have HB := Lib.hid (show endV s S + totB T ≤ 12000 by omega)
      have HE := Lib.hid (show endV s (seenV nb sz s S T) ≤ 12000 from by have := seenV_end nb sz s hlv.disk.fj.hs T S; omega)
      have HMN := Lib.hid (And.intro hlv.disk.fi.vol.mul hlv.disk.fi.vol.len)
      have hq := Ships.one hlv
      have HXL := Lib.hid (show xlen ≤ 300 from HF2T.out.2 0 (by omega))
      obtain ⟨d, hd⟩ : ∃ d, D.d = d := ⟨_, rfl⟩
      rw [hd] at hq ⊢
      obtain ⟨R, hR⟩ : ∃ R, seenV nb sz s S T = R := ⟨_, rfl⟩
      rw [hR] at HE HMN
      have HR := Lib.hid (fun _ : True => hR)
      have HQ := Lib.hid hq
      clear hq hd hlv hT hbg h40 HFT HF2T HP HF hR
      go_wp2_with fail
      refine (ships_sync (i := 0) HQ.out rfl HT.out (Nat.le_trans HB.out (by omega))).mono ?_
      rintro r w6 ⟨rfl, hq⟩
      rw [HR.out trivial] at hq
      obtain ⟨L, f, l⟩ := R
      have HQ1 := Lib.hid (show Ships w4 w6 nb sz N s most [(d, ⟨L, f, l⟩, [])] from hq)
      clear hq HQ HR HB HT
      go_wp2_with fail
      refine (ships_copy (i := 0) HQ1.out rfl (by simp)).mono ?_
      rintro r w7 ⟨q, rfl, hq, _⟩
      have HQ2 := Lib.hid (show Ships w4 w7 nb sz N s most [(d, ⟨L, f, l⟩, []), (q, ⟨L, f, l⟩, [])] from hq)
      clear hq HQ1
      have l1 := (HB4.out.grown (HQ2.out.grown (i := 0) rfl)).look
      go_wp2_with fail
      clear l1
      obtain ⟨E, hE, hEc⟩ := put_cases nb sz xi xb.length
      have hc := ships_put (i := 0) HQ2.out rfl xi xa xlen xcap xb (HX.out.b.grown (grown_trans HG4.out (HQ2.out.grown (i := 0) rfl))) (Nat.le_trans HXL.out (by omega)) (by simp) (by have := HE.out; have := HXL.out; simp only [totB, List.map_nil, List.sum_nil]; omega)
      rw [hE] at hc
      have HC := Lib.hid hc
      have HEE := Lib.hid (fun _ : True => hE)
      clear hc hE
      rcases hEc with rfl | ⟨e1, e2, e3⟩
      · obtain ⟨j, rfl, hj, hb⟩ := putE_ok (HEE.out trivial)
        rw [putT_in hj hb] at HC
        have HJ := Lib.hid (And.intro hj hb)
        have HPJ := Lib.hid (mend_blk HMN.out.1 HMN.out.2 hj hb xt)
        have HBL := Lib.hid (blk_len HMN.out.1 HMN.out.2 hj)
        have HBB := Lib.hid (blocks_torn HMN.out.1 HMN.out.2 hj hb xt)
        have HBN := Lib.hid (blk_len HMN.out.1 (tearV_length HMN.out.1 HMN.out.2 (j : Nat) xb sz) hj)
        have HTB := Lib.hid (show endV s ⟨L, f, l⟩ + totB [⟨0, (j : Nat), xb, 0⟩] ≤ 549755813888 from by have := HE.out; have := HX.out.b.len_eq; have := HXL.out; simp only [totB, List.map_cons, List.map_nil, List.sum_cons, List.sum_nil]; simp only at *; omega)
        clear hj hb
        refine HC.out.mono ?_
        rintro r w8 ⟨rfl, hq⟩
        have HQ3 := Lib.hid (show Ships w4 w8 nb sz N s most [(d, ⟨L, f, l⟩, [⟨0, (j : Nat), xb, 0⟩]), (q, ⟨L, f, l⟩, [])] from hq)
        clear hq HQ2 HC
        go_wp2_with fail
        refine (ships_copy (i := 0) HQ3.out rfl (by simp)).mono ?_
        rintro r w9 ⟨t, rfl, hq, _⟩
        have HQ4 := Lib.hid (show Ships w4 w9 nb sz N s most [(d, ⟨L, f, l⟩, [⟨0, (j : Nat), xb, 0⟩]), (q, ⟨L, f, l⟩, []), (t, ⟨L, f, l⟩, [⟨0, (j : Nat), xb, 0⟩])] from hq)
        clear hq HQ3
        have l1 := (HB4.out.grown (HQ4.out.grown (i := 0) rfl)).look
        go_wp2_with fail
        clear l1
        refine (ships_crash (i := 0) HQ4.out rfl 0 xt (by simp) HTB.out).mono ?_
        rw [crash_put]
        rintro r w10 ⟨rfl, hq⟩
        obtain ⟨L1, hL1⟩ : ∃ L1, (tearV nb sz L (j : Nat) xb xt).1 = L1 := ⟨_, rfl⟩
        rw [hL1] at hq HBB HPJ
        have HQ5 := Lib.hid (show Ships w4 w10 nb sz N s most [(d, ⟨L1, f, l⟩, []), (q, ⟨L, f, l⟩, []), (t, ⟨L, f, l⟩, [⟨0, (j : Nat), xb, 0⟩])] from hq)
        clear hq hL1 HQ4
        have HT1 := Lib.hid (fun u (hu : w10.grownBy u none) => ships_block (i := 2) (HQ5.out.later hu) rfl (j : Nat))
        have HT2 := Lib.hid (fun u (hu : w10.grownBy u none) => ships_block (i := 1) (HQ5.out.later hu) rfl (j : Nat))
        have HT3 := Lib.hid (fun u (hu : w10.grownBy u none) => ships_block (i := 0) (HQ5.out.later hu) rfl (j : Nat))
        rw [blockOf_in HJ.out.1, seen_put] at HT1
        rw [blockOf_in HJ.out.1, show seenV nb sz s ⟨L, f, l⟩ [] = ⟨L, f, l⟩ from rfl] at HT2
        rw [blockOf_in HJ.out.1, show seenV nb sz s ⟨L1, f, l⟩ [] = ⟨L1, f, l⟩ from rfl] at HT3
        simp only at HT1 HT2 HT3
        obtain ⟨b1, hb1⟩ : ∃ b1, blk sz j (tearV nb sz L (j : Nat) xb sz).1 = b1 := ⟨_, rfl⟩
        obtain ⟨b2, hb2⟩ : ∃ b2, blk sz j L = b2 := ⟨_, rfl⟩
        obtain ⟨b3, hb3⟩ : ∃ b3, blk sz j L1 = b3 := ⟨_, rfl⟩
        obtain ⟨n, hn⟩ : ∃ n, clampN xt sz = n := ⟨_, rfl⟩
        rw [hb1] at HT1 HBB HBN
        rw [hb2] at HT2 HBB HBL HPJ
        rw [hb3] at HT3 HBB
        rw [hn] at HBB
        have hz32 := HZ.out trivial
        rw [hz32] at hn HBL HBN
        have HN := Lib.hid (fun _ : True => hn)
        have m1 := max_nat xt xt.toNat rfl
        have m2 := min_nat xt.toNat 32 n (by rw [← hn]; rfl) (by omega)
        have HNL := Lib.hid (show n ≤ 32 from by rw [← hn]; exact clamp_le _ _)
        clear hb1 hb2 hb3 hn hz32
        obtain ⟨xm, hxm⟩ : ∃ xm, xt.toNat = xm := ⟨_, rfl⟩
        rw [hxm] at m1 m2
        clear hxm
        have l1 := (HB4.out.grown (HQ5.out.grown (i := 0) rfl)).look
        have HB5 := Lib.hid (fun u (hu : w10.grownBy u none) => (HB4.out.grown (HQ5.out.grown (i := 0) rfl)).grown hu)
        have HSZ := Lib.hid (show b2.length ≤ sz by rw [HBL.out, HZ.out trivial]; exact Nat.le_refl _)
        go_wp2_with fail
        clear l1 m1 m2
        refine (HT1.out _ (World.grownBy.refl _ _)).mono ?_
        rintro r w11 ⟨a1, n1, c1, rfl, hi1, hg11⟩
        obtain rfl : n1 = 32 := by rw [← hi1.len_eq]; exact HBN.out
        have HG11 := Lib.hid hg11
        have l1 := (HB5.out _ hg11).look
        clear hi1 hg11
        go_wp2_with fail
        clear l1
        refine (HT2.out _ HG11.out).mono ?_
        rintro r w12 ⟨a2, n2, c2, rfl, hi2, hg12⟩
        obtain rfl : n2 = 32 := by rw [← hi2.len_eq]; exact HBL.out
        have HG12 := Lib.hid (grown_trans HG11.out hg12)
        have kP := look_atB (HB5.out _ HG12.out)
        have HTd := Lib.hid (fun u (hu : w12.grownBy u none) => HT3.out u (grown_trans HG12.out hu))
        have HTt := Lib.hid (fun u (hu : w12.grownBy u none) => HT1.out u (grown_trans HG12.out hu))
        have HTw := Lib.hid (fun u (hu : w12.grownBy u none) => HT2.out u (grown_trans HG12.out hu))
        have hnl := HNL.out
        have hs1 : n ≤ (strB b1).size := by rw [strB_size, HBN.out]; exact hnl
        have hs2 : n ≤ (strB b2).size := by rw [strB_size, HBL.out]; exact hnl
        have hs3 : (n : Int) ≤ ((strB b1).size : Int) := Int.ofNat_le.2 hs1
        have hs4 : (n : Int) ≤ ((strB b2).size : Int) := Int.ofNat_le.2 hs2
        have HA := Lib.hid (fun u => add_str (b1.take n) (b2.drop n) (by rw [List.length_take, List.length_drop, HBN.out, HBL.out]; omega) u)
        rw [← HBB.out] at HA
        have hs5 : (strB b1).extract 0 n = strB (b1.take n) := strB_take b1 n
        have hs6 : (strB b2).extract n (strB b2).size = strB (b2.drop n) := strB_drop b2 n
        obtain ⟨tk, htk⟩ : ∃ tk, b1.take n = tk := ⟨_, rfl⟩
        obtain ⟨dr, hdr⟩ : ∃ dr, b2.drop n = dr := ⟨_, rfl⟩
        rw [htk] at HA hs5
        rw [hdr] at HA hs6
        have ha := HA.out
        have hS0 : w12.grownBy w12.drew none := grown_drew1 _
        have hS1 : w12.grownBy w12 none := World.grownBy.refl _ _
        clear hi2 hg12 hnl htk hdr
        go_wp2_with fail
        go_cut [82] (fun s82 wx => TwinCut w12 s82 wx)
        case first =>
          go_region_held_law (fun w' => w12.grownBy w' none)
            (with_reducible (first | assumption | exact grown_drew (by assumption)))
            (first
              | (go_at_call_of 19 (Value.pointer (some ⟨d, 0, none⟩)); refine (HTd.out _ (by with_reducible assumption)).mono ?_; rintro e w13 ⟨x1, m1, k1, rfl, hq1, hgx1⟩; have hS2 := keepT hgx1 (by with_reducible assumption); have kR1 := str_ofB (c := k1) hq1.reads hq1.len_eq; have hR1 := World.grownBy.refl w13 none)
              | (go_at_call_of 19 (Value.pointer (some ⟨t, 0, none⟩)); refine (HTt.out _ (by with_reducible assumption)).mono ?_; rintro e w14 ⟨x2, m2, k2, rfl, hq2, hgx2⟩; have hS3 := keepT hgx2 (by with_reducible assumption); have kR2 := str_ofB (c := k2) hq2.reads hq2.len_eq; have hR2 := World.grownBy.refl w14 none)
              | (go_at_call_of 19 (Value.pointer (some ⟨q, 0, none⟩)); refine (HTw.out _ (by with_reducible assumption)).mono ?_; rintro e w15 ⟨x3, m3, k3, rfl, hq3, hgx3⟩; have hS4 := keepT hgx3 (by with_reducible assumption); have hR13 := grown_trans hgx2 hgx3; have kR3 := str_ofB (c := k3) hq3.reads hq3.len_eq; have hR3 := World.grownBy.refl w15 none))
          all_goals (
            go_wp2_with fail
            go_meet
            exact ⟨rfl, hS4⟩)
        case rest =>
        obtain ⟨rfl, hgc⟩ := hcut
        have HG16 := Lib.hid (grown_trans HG12.out hgc)
        clear kP HTd HTt HTw hs1 hs2 hs3 hs4 hs5 hs6 ha HA hS0 hS1 hgc HT1 HT3
        have HQ6 := Lib.hid (fun u (hu : w10.grownBy u none) => HQ5.out.later hu)
        have l1 := (HB5.out _ HG16.out).look
        go_wp2_with fail
        go_region_law (first
          | (go_simp
             go_at_call_of 19 (Value.pointer (some ⟨q, 0, none⟩))
             refine (HT2.out _ (by first | exact HG16.out | exact grown_drew HG16.out)).mono ?_
             rintro e w17 ⟨x4, m4, k4, rfl, hq4, hgx4⟩
             have HI4 := Lib.hid hq4
             have HG17 := Lib.hid (show w10.grownBy w17 none by first | exact grown_trans HG16.out hgx4 | exact grown_trans (grown_drew HG16.out) hgx4)
             have l2 := (HB5.out _ HG17.out).look
             clear hq4 hgx4)
          | (go_simp
             go_at_call 18
             refine (ships_put (i := 0) (HQ6.out _ (by first | exact HG17.out | exact grown_drew HG17.out)) rfl (j : Nat) x4 m4 k4 b2 (by first | exact HI4.out | exact HI4.out.grown (grown_drew1 _)) (by rw [← HI4.out.len_eq, HBL.out]; omega) (by simp) (by rw [← HI4.out.len_eq, HBL.out]; have := HTB.out; simp only [totB, endV, List.map_nil, List.sum_nil] at *; omega)).mono ?_
             rintro e w18 ⟨rfl, hq⟩
             have HQ7 := Lib.hid hq
             clear hq))
        all_goals (
          rw [putT_in HJ.out.1 HSZ.out] at HQ7
          have HQ8 := Lib.hid (show Ships w4 w18 nb sz N s most [(d, ⟨L1, f, l⟩, [⟨0, (j : Nat), b2, 0⟩]), (q, ⟨L, f, l⟩, []), (t, ⟨L, f, l⟩, [⟨0, (j : Nat), xb, 0⟩])] from HQ7.out)
          clear HQ7 l1
          go_wp2_with fail
          refine (ships_twins (i := 0) (j := 1) HQ8.out rfl rfl (by rw [seen_put, HPJ.out]; rfl) (by rw [seen_put, HPJ.out]; exact Nat.le_trans HE.out (by omega))).mono ?_
          rintro r w19 ⟨rfl, hq⟩
          have HQ9 := Lib.hid hq
          clear hq
          go_wp2_with fail
          refine (disk_works _).mono ?_
          rintro r w20 ⟨rfl, hg⟩
          have HG20 := Lib.hid hg
          clear hg
          go_wp2_with fail
          go_ret
          exact ⟨rfl, grown_below (grown_trans HG4.out (grown_trans (HQ9.out.grown (i := 0) rfl) HG20.out))⟩)
      · rw [putT_not (by rw [HEE.out trivial]; exact e3)] at HC
        refine HC.out.mono ?_
        rintro r w8 ⟨rfl, hq⟩
        have HQ3 := Lib.hid (show Ships w4 w8 nb sz N s most [(d, ⟨L, f, l⟩, []), (q, ⟨L, f, l⟩, [])] from hq)
        clear hq HQ2 HC
        go_wp2_with fail
        refine (ships_twins (i := 0) (j := 1) HQ3.out rfl rfl rfl (Nat.le_trans HE.out (by omega))).mono ?_
        rintro r w9 ⟨rfl, hq⟩
        have HQ4 := Lib.hid hq
        clear hq HQ3
        go_wp2_with fail
        refine (disk_works _).mono ?_
        rintro r w10 ⟨rfl, hg⟩
        have HG := Lib.hid hg
        clear hg
        go_wp2_with fail
        go_ret
        exact ⟨rfl, grown_below (grown_trans HG4.out (grown_trans (HQ4.out.grown (i := 0) rfl) HG.out))⟩

end Go.Proofs.Ytkemocbifancfaa
