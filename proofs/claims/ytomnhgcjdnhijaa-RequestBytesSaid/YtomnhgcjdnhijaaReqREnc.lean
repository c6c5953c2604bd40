/-
  Requests are encoded by the document.
-/
import Derived.Test.YtomnhgcjdnhijaaReqBack
import Derived.Test.YtomnhgcjdnhijaaBuf
namespace Go.Proofs.Ytomnhgcjdnhijaa
open Go.RowKit
set_option maxRecDepth 100000

theorem Buf.one {w0 : World} (g : Nat) (hg : g = w0.heap.size) (c : UInt8) : Buf w0 (w0.alloc (.cells #[.int .u8 (c.toNat : Int)] 5)) (.slice (some ⟨g, 0, none⟩) 1 1) [c] := by
  subst hg
  exact ⟨OwnB.lit w0 [c] _ 1 rfl rfl (by simp [maxLen]), World.grownBy_alloc _ _ none⟩
def LBRel (w : World) (L : List LineP) (n : Nat) (v i : Value) (wr : World) : Prop :=
  ∃ j : Nat, j ≤ n ∧ i = .int .i64 j ∧ Buf w wr v ([UInt8.ofNat n] ++ linesB (L.take j))
set_option maxHeartbeats 3200000 in
theorem ref_linesBytes (a : Option Addr) (n c : Nat) (L : List LineP) (w : World) (hL : LineList w a L) (hn : L.length = n) (h3 : n ≤ 3) :
    Calls Try.prog 41 #[.slice a n c] w (OwnPost w ([UInt8.ofNat n] ++ linesB L)) := by
  have HL := Lib.hid hL; have HN := Lib.hid hn
  obtain ⟨nb, hnb⟩ : ∃ u : UInt8, UInt8.ofNat n = u := ⟨_, rfl⟩
  have hwn : IntKind.u8.wrap (n : Int) = (nb.toNat : Int) := by rw [← hnb]; exact u8w n (by omega)
  have hmn : (n : Int) % 256 = (nb.toNat : Int) := by rw [← hnb]; simp
  have HNB := Lib.hid hnb
  have HB0 := Lib.hid (Buf.one (w0 := w) w.heap.size rfl nb)
  clear hL hn hnb
  rw [HNB.out]
  go_enter Try.func41, Try.ntmps41
  go_wp2_with fail
  go_loopw [3, 4] (fun v i wr => LBRel w L n v i wr) (fun _ i _ => n - (intOf i).toNat)
  case atStart => exact ⟨0, Nat.zero_le _, rfl, by rw [HNB.out]; simpa [linesB] using HB0.out⟩
  case round =>
    obtain ⟨j, hj, rfl, hb⟩ := hrel
    rw [HNB.out] at hb
    have HB := Lib.hid hb
    clear hb
    by_cases hlt : j < n
    · obtain ⟨⟨x, y⟩, he⟩ : ∃ e, L[j]'(by rw [HN.out]; exact hlt) = e := ⟨_, rfl⟩
      have hat := HL.out j (by rw [HN.out]; exact hlt)
      rw [he] at hat
      obtain ⟨b, o, rfl, h0, h1⟩ := hat
      have hln : ([nb] ++ linesB (L.take j)).length ≤ 28 := by
        rw [List.length_append, linesB_length]
        have : (L.take j).length ≤ j := List.length_take_le _ _
        simp only [List.length_cons, List.length_nil]
        omega
      have hnx : [nb] ++ linesB (L.take (j + 1)) = ([nb] ++ linesB (L.take j)) ++ x :: numB (u64n y) 8 := by rw [linesB_snoc L j (by rw [HN.out]; exact hlt), he]; simp [lineB]
      obtain ⟨Q, hQ⟩ : ∃ Q, [nb] ++ linesB (L.take j) = Q := ⟨_, rfl⟩
      rw [hQ] at HB hln hnx
      have HNX := Lib.hid hnx; have HLN := Lib.hid hln
      have d0 := grown_cell HB.out.2 h0
      have d1 := grown_cell HB.out.2 h1
      have HC1 := Lib.hid h1
      have i0 : (0 : Int) ≤ (j : Int) := by omega
      have i1 : (j : Int) < (n : Int) := by omega
      have HBA := Lib.hid (HB.out.grown (World.grownBy_alloc wr (.cells #[.int .u8 (x.toNat : Int)] 5) none))
      clear he hnx hln hQ h0 h1 d1
      go_wp2_with (at_builtin; refine wpList_append_buf (o := ⟨some 22, _, _, _, _, _⟩) rfl _ _ rfl HBA.out rfl (RB.one wr _ rfl x _ _) rfl rfl (by have := HLN.out; omega) ?_)
      intro a2 n2 c2 w2 hb2
      have HB2 := Lib.hid hb2
      have d1 := grown_cell HB2.out.2 HC1.out
      clear hb2 d0
      go_wp2_with fail
      refine (ref_int y (u64n y) (u64n_eq y) w2).mono ?_
      rintro r w3 ⟨a3, n3, c3, rfl, hn3, ho, hg⟩
      have HB3 := Lib.hid (HB2.out.grown hg)
      have HR3 := Lib.hid (RB.of_own ho); have HN3 := Lib.hid hn3
      clear ho hg hn3 d1
      go_wp2_with (at_builtin; refine wpList_append_buf (o := ⟨some 30, _, _, _, _, _⟩) rfl _ _ rfl HB3.out rfl HR3.out rfl HN3.out (by have h := HN3.out; rw [numB_length] at h; have := HLN.out; subst h; simp; omega) ?_)
      intro a4 n4 c4 w4 hb4
      have HB4 := Lib.hid hb4
      clear hb4
      go_wp2_with fail
      go_roundw
      case rel => exact ⟨j + 1, by omega, by go_num, by rw [HNB.out, HNX.out]; exact HB4.out⟩
      case measure => simp [intOf]; omega
    · obtain rfl : j = n := by omega
      have h := HB.out
      rw [List.take_of_length_le (by rw [HN.out]; exact Nat.le_refl _)] at h
      have HBL := Lib.hid h
      clear h
      obtain ⟨a', n', c', rfl, _⟩ := HBL.out.1.len
      go_wp2_with fail
      go_ret
      exact HBL.out.post


theorem RB.lit (w : World) (g : Nat) (hg : g = w.heap.size) (l : List UInt8) (C : Array Value) (hC : C = (l.map bval).toArray) (E : TypeId) : RB (w.alloc (.cells C E)) (some ⟨g, 0, none⟩) l := RB.const w C E _ l g hg hC
set_option maxHeartbeats 3200000 in
theorem ref_reqBytes (r : ReqP) (a : Option Addr) (n c : Nat) (w : World) (hb : ReqB w r a n c) (ok : r.ok) (hp : r.plain = true) :
    Calls Try.prog 13 #[.agg #[.int .u8 (r.k.toNat : Int), .int .u32 (r.o : Int), .int .u8 (r.p.toNat : Int), .slice a n c, .int .u8 (r.s.toNat : Int), .int .u8 (r.f.toNat : Int), .int .u8 (r.t.toNat : Int), .int .i64 r.q]] w (OwnPost w (reqB r)) := by
  have hs := plain_shape hp
  obtain ⟨rk, ro, rp, rL, rs, rf, rt, rq⟩ := r
  have hro : ro < 4294967296 := ok.o
  have hL := hb.list; have hn := hb.len
  simp only at hs hro hL hn
  have LK := fun u (h : (w.alloc (.cells #[.int .u8 (rk.toNat : Int), .int .u32 (ro : Int), .int .u8 (rp.toNat : Int), .slice a n c, .int .u8 (rs.toNat : Int), .int .u8 (rf.toNat : Int), .int .u8 (rt.toNat : Int), .int .i64 rq] 25)).grownBy u none) => look_new w 25 [.int .u8 (rk.toNat : Int), .int .u32 (ro : Int), .int .u8 (rp.toNat : Int), .slice a n c, .int .u8 (rs.toNat : Int), .int .u8 (rf.toNat : Int), .int .u8 (rt.toNat : Int), .int .i64 rq] u h
  have hws : IntKind.u64.wrap (ro : Int) = (ro : Int) := wrap_u64 _ (by omega) (by omega)
  have HB0 := Lib.hid (Buf.one (w0 := (w.alloc (.cells #[.int .u8 (rk.toNat : Int), .int .u32 (ro : Int), .int .u8 (rp.toNat : Int), .slice a n c, .int .u8 (rs.toNat : Int), .int .u8 (rf.toNat : Int), .int .u8 (rt.toNat : Int), .int .i64 rq] 25))) (w.heap.size + 1) (by simp) rk)
  have hga := Lib.hid (World.grownBy_alloc w (.cells #[.int .u8 (rk.toNat : Int), .int .u32 (ro : Int), .int .u8 (rp.toNat : Int), .slice a n c, .int .u8 (rs.toNat : Int), .int .u8 (rf.toNat : Int), .int .u8 (rt.toNat : Int), .int .i64 rq] 25) none)
  have HOB := Lib.hid (fun l e w' (h : OwnPost (w.alloc (.cells #[.int .u8 (rk.toNat : Int), .int .u32 (ro : Int), .int .u8 (rp.toNat : Int), .slice a n c, .int .u8 (rs.toNat : Int), .int .u8 (rf.toNat : Int), .int .u8 (rt.toNat : Int), .int .i64 rq] 25)) l e w') => OwnPost.base hga.out h)
  clear hb ok hp
  rcases hs with ⟨e1, h3, hz⟩ | ⟨e1, hz1, e4, hz⟩ | ⟨e1, hz⟩ | ⟨e1, hz⟩ | ⟨e1, hz⟩
  · have HO := Lib.hid (show reqB ⟨rk, ro, rp, rL, rs, rf, rt, rq⟩ = [rk] ++ numB ro 4 ++ [rp] ++ ([UInt8.ofNat n] ++ linesB rL) by unfold reqB; simp only; rw [if_pos e1, hn]; simp)
    have q1 : ((rk.toNat : Int) == 1) = true := by rw [e1]; rfl
    have h4 : (rk.toNat : Int) ≤ 4 := by rw [e1]; decide
    have HLB := Lib.hid (fun u (hg : w.grownBy u none) => ref_linesBytes a n c rL u (hL.grown hg) hn (by omega))
    clear hz e1 hL
    go_enter Try.func13, Try.ntmps13
    go_wp2_with fail
    refine (ref_num_4 ro (by omega) _).mono ?_
    rintro r w1 ⟨a1, n1, c1, rfl, hn1, ho, hg⟩
    have HB1c := Lib.hid (HB0.out.grown hg)
    have HR1 := Lib.hid (RB.of_own ho); have HN1 := Lib.hid hn1
    clear ho hg hn1
    go_wp2_with (at_builtin; refine wpList_append_buf (o := ⟨some 15, _, _, _, _, _⟩) rfl _ _ rfl HB1c.out rfl HR1.out rfl HN1.out (by have h := HN1.out; rw [numB_length] at h; subst h; simp) ?_)
    intro a2 n2 c2 w2 hb2
    have HB2 := Lib.hid hb2
    have hg2 := hb2.2
    clear hb2
    have HB3c := Lib.hid (HB2.out.grown (World.grownBy_alloc w2 (.cells #[.int .u8 (rp.toNat : Int)] 5) none))
    go_wp2_with (at_builtin; refine wpList_append_buf (o := ⟨some 24, _, _, _, _, _⟩) rfl _ _ rfl HB3c.out rfl (RB.lit w2 _ (by simp) [rp] _ rfl 5) rfl rfl (by simp [numB_length]) ?_)
    intro a4 n4 c4 w4 hb4
    have HB4 := Lib.hid hb4
    have hg4 := hb4.2
    clear hb4
    go_wp2_with fail
    refine (HLB.out _ (grown_trans hga.out hg4)).mono ?_
    rintro r w5 ⟨a5, n5, c5, rfl, hn5, ho, hg⟩
    have HB5c := Lib.hid (HB4.out.grown hg)
    have HR5 := Lib.hid (RB.of_own ho); have HN5 := Lib.hid hn5
    clear ho hg hn5 hg4
    go_wp2_with (at_builtin; refine wpList_append_buf (o := ⟨some 29, _, _, _, _, _⟩) rfl _ _ rfl HB5c.out rfl HR5.out rfl HN5.out (by have h := HN5.out; simp at h; subst h; simp [numB_length, linesB_length]; omega) ?_)
    intro a6 n6 c6 w6 hb6
    have HB6 := Lib.hid hb6
    have hg6 := hb6.2
    clear hb6
    go_wp2_with fail
    go_ret
    rw [HO.out]
    exact HOB.out _ _ _ (by simpa using HB6.out.post)
  · have HO := Lib.hid (show reqB ⟨rk, ro, rp, rL, rs, rf, rt, rq⟩ = [rk] ++ numB ro 4 by unfold reqB; simp only; rw [if_neg e1, if_pos e4])
    have q1 : ((rk.toNat : Int) == 1) = false := by rw [show ((rk.toNat : Int) == 1) = decide (rk = 1) from k_eq rk 1 (by decide)]; exact decide_eq_false e1
    have h4 : (rk.toNat : Int) ≤ 4 := by omega
    have q5 : ((rk.toNat : Int) == 5) = false := by simp; omega
    have q6 : ((rk.toNat : Int) == 6) = false := by simp; omega
    have q7 : ((rk.toNat : Int) == 7) = false := by simp; omega
    clear hz e1 hL
    go_enter Try.func13, Try.ntmps13
    go_wp2_with fail
    refine (ref_num_4 ro (by omega) _).mono ?_
    rintro r w1 ⟨a1, n1, c1, rfl, hn1, ho, hg⟩
    have HB1c := Lib.hid (HB0.out.grown hg)
    have HR1 := Lib.hid (RB.of_own ho); have HN1 := Lib.hid hn1
    clear ho hg hn1
    go_wp2_with (at_builtin; refine wpList_append_buf (o := ⟨some 15, _, _, _, _, _⟩) rfl _ _ rfl HB1c.out rfl HR1.out rfl HN1.out (by have h := HN1.out; rw [numB_length] at h; subst h; simp) ?_)
    intro a2 n2 c2 w2 hb2
    have HB2 := Lib.hid hb2
    have hg2 := hb2.2
    clear hb2
    go_wp2_with fail
    go_ret
    rw [HO.out]
    exact HOB.out _ _ _ (by simpa using HB2.out.post)
  · have HO := Lib.hid (show reqB ⟨rk, ro, rp, rL, rs, rf, rt, rq⟩ = [rk] ++ [rs, rt] ++ numB (u64n rq) 8 by rw [e1]; rfl)
    have q1 : ((rk.toNat : Int) == 1) = false := by rw [e1]; rfl
    have h4 : ¬ (rk.toNat : Int) ≤ 4 := by rw [e1]; decide
    have q5 : ((rk.toNat : Int) == 5) = true := by rw [e1]; rfl
    clear hz e1 hL
    go_enter Try.func13, Try.ntmps13
    have HB1c := Lib.hid (HB0.out.grown (World.grownBy_alloc ((w.alloc (.cells #[.int .u8 (rk.toNat : Int), .int .u32 (ro : Int), .int .u8 (rp.toNat : Int), .slice a n c, .int .u8 (rs.toNat : Int), .int .u8 (rf.toNat : Int), .int .u8 (rt.toNat : Int), .int .i64 rq] 25)).alloc (.cells #[.int .u8 (rk.toNat : Int)] 5)) (.cells #[.int .u8 (rs.toNat : Int), .int .u8 (rt.toNat : Int)] 5) none))
    go_wp2_with (at_builtin; refine wpList_append_buf (o := ⟨some 38, _, _, _, _, _⟩) rfl _ _ rfl HB1c.out rfl (RB.lit ((w.alloc (.cells #[.int .u8 (rk.toNat : Int), .int .u32 (ro : Int), .int .u8 (rp.toNat : Int), .slice a n c, .int .u8 (rs.toNat : Int), .int .u8 (rf.toNat : Int), .int .u8 (rt.toNat : Int), .int .i64 rq] 25)).alloc (.cells #[.int .u8 (rk.toNat : Int)] 5)) _ (by simp) [rs, rt] _ rfl 5) rfl rfl (by simp) ?_)
    intro a2 n2 c2 w2 hb2
    have HB2 := Lib.hid hb2
    have hg2 := hb2.2
    clear hb2
    go_wp2_with fail
    refine (ref_int rq (u64n rq) (u64n_eq rq) _).mono ?_
    rintro r w3 ⟨a3, n3, c3, rfl, hn3, ho, hg⟩
    have HB3c := Lib.hid (HB2.out.grown hg)
    have HR3 := Lib.hid (RB.of_own ho); have HN3 := Lib.hid hn3
    clear ho hg hn3 hg2
    go_wp2_with (at_builtin; refine wpList_append_buf (o := ⟨some 43, _, _, _, _, _⟩) rfl _ _ rfl HB3c.out rfl HR3.out rfl HN3.out (by have h := HN3.out; rw [numB_length] at h; subst h; simp) ?_)
    intro a4 n4 c4 w4 hb4
    have HB4 := Lib.hid hb4
    have hg4 := hb4.2
    clear hb4
    go_wp2_with fail
    go_ret
    rw [HO.out]
    exact HOB.out _ _ _ (by simpa using HB4.out.post)
  · have HO := Lib.hid (show reqB ⟨rk, ro, rp, rL, rs, rf, rt, rq⟩ = [rk] ++ [rs, rf, rt] ++ numB (u64n rq) 8 by rw [e1]; rfl)
    have q1 : ((rk.toNat : Int) == 1) = false := by rw [e1]; rfl
    have h4 : ¬ (rk.toNat : Int) ≤ 4 := by rw [e1]; decide
    have q5 : ((rk.toNat : Int) == 5) = false := by rw [e1]; rfl
    have q6 : ((rk.toNat : Int) == 6) = true := by rw [e1]; rfl
    clear hz e1 hL
    go_enter Try.func13, Try.ntmps13
    have HB1c := Lib.hid (HB0.out.grown (World.grownBy_alloc ((w.alloc (.cells #[.int .u8 (rk.toNat : Int), .int .u32 (ro : Int), .int .u8 (rp.toNat : Int), .slice a n c, .int .u8 (rs.toNat : Int), .int .u8 (rf.toNat : Int), .int .u8 (rt.toNat : Int), .int .i64 rq] 25)).alloc (.cells #[.int .u8 (rk.toNat : Int)] 5)) (.cells #[.int .u8 (rs.toNat : Int), .int .u8 (rf.toNat : Int), .int .u8 (rt.toNat : Int)] 5) none))
    go_wp2_with (at_builtin; refine wpList_append_buf (o := ⟨some 54, _, _, _, _, _⟩) rfl _ _ rfl HB1c.out rfl (RB.lit ((w.alloc (.cells #[.int .u8 (rk.toNat : Int), .int .u32 (ro : Int), .int .u8 (rp.toNat : Int), .slice a n c, .int .u8 (rs.toNat : Int), .int .u8 (rf.toNat : Int), .int .u8 (rt.toNat : Int), .int .i64 rq] 25)).alloc (.cells #[.int .u8 (rk.toNat : Int)] 5)) _ (by simp) [rs, rf, rt] _ rfl 5) rfl rfl (by simp) ?_)
    intro a2 n2 c2 w2 hb2
    have HB2 := Lib.hid hb2
    have hg2 := hb2.2
    clear hb2
    go_wp2_with fail
    refine (ref_int rq (u64n rq) (u64n_eq rq) _).mono ?_
    rintro r w3 ⟨a3, n3, c3, rfl, hn3, ho, hg⟩
    have HB3c := Lib.hid (HB2.out.grown hg)
    have HR3 := Lib.hid (RB.of_own ho); have HN3 := Lib.hid hn3
    clear ho hg hn3 hg2
    go_wp2_with (at_builtin; refine wpList_append_buf (o := ⟨some 59, _, _, _, _, _⟩) rfl _ _ rfl HB3c.out rfl HR3.out rfl HN3.out (by have h := HN3.out; rw [numB_length] at h; subst h; simp) ?_)
    intro a4 n4 c4 w4 hb4
    have HB4 := Lib.hid hb4
    have hg4 := hb4.2
    clear hb4
    go_wp2_with fail
    go_ret
    rw [HO.out]
    exact HOB.out _ _ _ (by simpa using HB4.out.post)
  · have HO := Lib.hid (show reqB ⟨rk, ro, rp, rL, rs, rf, rt, rq⟩ = [rk] ++ [rs] by rw [e1]; rfl)
    have q1 : ((rk.toNat : Int) == 1) = false := by rw [e1]; rfl
    have h4 : ¬ (rk.toNat : Int) ≤ 4 := by rw [e1]; decide
    have q5 : ((rk.toNat : Int) == 5) = false := by rw [e1]; rfl
    have q6 : ((rk.toNat : Int) == 6) = false := by rw [e1]; rfl
    have q7 : ((rk.toNat : Int) == 7) = true := by rw [e1]; rfl
    clear hz e1 hL
    go_enter Try.func13, Try.ntmps13
    have HB1c := Lib.hid (HB0.out.grown (World.grownBy_alloc ((w.alloc (.cells #[.int .u8 (rk.toNat : Int), .int .u32 (ro : Int), .int .u8 (rp.toNat : Int), .slice a n c, .int .u8 (rs.toNat : Int), .int .u8 (rf.toNat : Int), .int .u8 (rt.toNat : Int), .int .i64 rq] 25)).alloc (.cells #[.int .u8 (rk.toNat : Int)] 5)) (.cells #[.int .u8 (rs.toNat : Int)] 5) none))
    go_wp2_with (at_builtin; refine wpList_append_buf (o := ⟨some 66, _, _, _, _, _⟩) rfl _ _ rfl HB1c.out rfl (RB.lit ((w.alloc (.cells #[.int .u8 (rk.toNat : Int), .int .u32 (ro : Int), .int .u8 (rp.toNat : Int), .slice a n c, .int .u8 (rs.toNat : Int), .int .u8 (rf.toNat : Int), .int .u8 (rt.toNat : Int), .int .i64 rq] 25)).alloc (.cells #[.int .u8 (rk.toNat : Int)] 5)) _ (by simp) [rs] _ rfl 5) rfl rfl (by simp) ?_)
    intro a2 n2 c2 w2 hb2
    have HB2 := Lib.hid hb2
    have hg2 := hb2.2
    clear hb2
    go_wp2_with fail
    go_ret
    rw [HO.out]
    exact HOB.out _ _ _ (by simpa using HB2.out.post)

end Go.Proofs.Ytomnhgcjdnhijaa
