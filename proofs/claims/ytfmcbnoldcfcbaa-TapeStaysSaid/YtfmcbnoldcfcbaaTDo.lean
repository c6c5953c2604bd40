/-
  An act, done to a tape and to the document's.
-/
import Derived.Test.YtfmcbnoldcfcbaaTSame
namespace Go.Proofs.Ytfmcbnoldcfcbaa
open Go.RowKit
set_option maxRecDepth 100000

theorem InB.keptX {X : Nat → Prop} {w w' : World} {a : Option Addr} {n c : Nat} {l : List UInt8} (h : InB w a n c l) (hx : RX w X a l) (hk : Kept X w w') : InB w' a n c l := ⟨h.len_eq, h.cap_le, h.max, h.nil, (hx.kept hk).rb⟩
theorem SlB.keptX {X : Nat → Prop} {w w' : World} {a : Option Addr} {n c : Nat} {l : List UInt8} (h : SlB w a n c l) (hx : RX w X a l) (hk : Kept X w w') : SlB w' a n c l := ⟨(hx.kept hk).rb, h.len, h.cap, h.max, h.shape⟩
theorem SlB.low {w : World} {a : Option Addr} {n c : Nat} {l : List UInt8} (h : SlB w a n c l) {ad : Addr} (e : a = some ad) (hne : l ≠ []) : ad.block < w.heap.size := by
  obtain ⟨b, o, e2, hc⟩ := h.rb 0 (List.length_pos_iff.2 hne)
  rw [e] at e2
  cases e2
  exact World.block_lt_of_cell? w _ hc
def DoPost (w : World) (g M B s f : Nat) (l : List UInt8) (vs : List Value) (F sx : Nat) (lx : List UInt8) (a : Option Addr) (A : TActV) (r : Ending) (w' : World) : Prop :=
  ∃ a2 n2 c2 vs2, r = .returned (.agg #[.slice a2 n2 c2, .int .i64 ((docF F sx lx A.k A.n : Nat) : Int), .int .i64 (sx : Int)]) ∧ TapeIs w' g M B s (actF s f l A.k A.n) (actL s f l A.k A.n A.b) vs2 ∧ RowsOf w.heap.size vs vs2 ∧
    Kept (TX g M vs) w w' ∧ SlB w' a2 n2 c2 (docL F sx lx A.k A.n A.b) ∧ Near w lx a (docL F sx lx A.k A.n A.b) a2 ∧ RX w' (TX g M vs2) a2 (docL F sx lx A.k A.n A.b)
theorem do_fin {w w1 w2 w3 : World} {g M B s f f' F' sx bx : Nat} {l l' lx lx' : List UInt8} {vs vs2 : List Value} {a a2 : Option Addr} {n c n2 c2 : Nat} (h : TapeIs w g M B s f l vs) (hd : SlB w a n c lx) (hdx : RX w (TX g M vs) a lx) (hg1 : w.grownBy w1 none) (hs1 : w1.heap.size = bx + 1) (hbx : w.heap.size ≤ bx)
    (ht : TapeIs w2 g M B s f' l' vs2) (hro : RowsOf w1.heap.size vs vs2) (hk : Kept (TX g M vs) w1 w2) (hs : SlB w3 a2 n2 c2 lx') (hg3 : w2.grownBy w3 none) (hn : Near w2 lx a lx' a2) :
    let w4 := ((w3.setCell ⟨bx, 0, none⟩ (.slice a2 n2 c2)).setCell ⟨bx, 1, none⟩ (.int .i64 (F' : Int))).setCell ⟨bx, 2, none⟩ (.int .i64 (sx : Int))
    TapeIs w4 g M B s f' l' vs2 ∧ RowsOf w.heap.size vs vs2 ∧ Kept (TX g M vs) w w4 ∧ SlB w4 a2 n2 c2 lx' ∧ Near w lx a lx' a2 ∧ RX w4 (TX g M vs2) a2 lx' := by
  intro w4
  have hfar := h.far
  have hz1 := hg1.size
  have hz2 := hk.size
  have hg4 : w3.grownBy w4 (some bx) := grow3 w3 bx _ _ _
  have hk4 : Kept (fun k => k = bx) w3 w4 := Kept.of_row hg4 rfl
  have hs4 : SlB w4 a2 n2 c2 lx' := hs.keptX (X := fun k => k = bx) (RX.of_rb hs.rb (fun ad e hne hb => by
    rcases hn ad e hne with ⟨h0, ad0, e0, e1⟩ | h2
    · have := hd.low e0 h0
      omega
    · omega)) hk4
  refine ⟨(ht.grown hg3).keptX hk4 (fun k hx e => ?_), fun v hv k hk' => ?_, (((Kept.of_grown hg1).trans hk).trans (Kept.of_grown hg3)).rowB hg4 (fun k e => by cases e; exact .inr hbx), hs4, fun ad e hne => ?_, RX.of_rb hs4.rb (fun ad e hne hx => ?_)⟩
  · subst e
    rcases hx with e | e | ⟨v, hv, e⟩
    · have := hfar _ (.inl e); omega
    · have := hfar _ (.inr (.inl e)); omega
    · rcases hro v hv _ e with ⟨u, hu, e2⟩ | h2
      · have := hfar _ (.inr (.inr ⟨u, hu, e2⟩)); omega
      · omega
  · rcases hro v hv k hk' with h2 | h2
    · exact .inl h2
    · exact .inr (by omega)
  · rcases hn ad e hne with h2 | h2
    · exact .inl h2
    · exact .inr (by omega)
  · rcases hn ad e hne with ⟨h0, ad0, e0, e1⟩ | h2
    · have hlo := hd.low e0 h0
      obtain ⟨b0, o0, e2, hnx, _⟩ := hdx 0 (List.length_pos_iff.2 h0)
      rw [e0] at e2
      cases e2
      simp only at e1 hlo
      rw [← e1] at hx
      rcases hx with e3 | e3 | ⟨v, hv, e3⟩
      · exact hnx (.inl e3)
      · exact hnx (.inr (.inl e3))
      · rcases hro v hv _ e3 with ⟨u, hu, e4⟩ | h5
        · exact hnx (.inr (.inr ⟨u, hu, e4⟩))
        · omega
    · have := ht.far _ hx
      omega
theorem Kept.more {X Y : Nat → Prop} {w w' : World} (h : Kept X w w') (hXY : ∀ k, X k → Y k) : Kept Y w w' := ⟨h.os, h.tape, h.output, h.size, fun k hk hy => h.block k hk (fun hx => hy (hXY k hx))⟩
theorem DoPost.mk' {w w1 w2 w3 : World} {g M B s f f' F F' sx bx : Nat} {l l' lx lx' : List UInt8} {vs vs2 : List Value} {a a2 : Option Addr} {n c n2 c2 : Nat} {A : TActV} (h : TapeIs w g M B s f l vs) (hd : SlB w a n c lx) (hdx : RX w (TX g M vs) a lx) (hg1 : w.grownBy w1 none) (hs1 : w1.heap.size = bx + 1) (hbx : w.heap.size ≤ bx)
    (ht : TapeIs w2 g M B s f' l' vs2) (hro : RowsOf w1.heap.size vs vs2) (hk : Kept (TX g M vs) w1 w2) (hs : SlB w3 a2 n2 c2 lx') (hg3 : w2.grownBy w3 none) (hn : Near w2 lx a lx' a2)
    (e1 : actF s f l A.k A.n = f') (e2 : actL s f l A.k A.n A.b = l') (e3 : docF F sx lx A.k A.n = F') (e4 : docL F sx lx A.k A.n A.b = lx') :
    DoPost w g M B s f l vs F sx lx a A (.returned (.agg #[.slice a2 n2 c2, .int .i64 (F' : Int), .int .i64 (sx : Int)])) (((w3.setCell ⟨bx, 0, none⟩ (.slice a2 n2 c2)).setCell ⟨bx, 1, none⟩ (.int .i64 (F' : Int))).setCell ⟨bx, 2, none⟩ (.int .i64 (sx : Int))) := by
  have hf := do_fin (F' := F') (sx := sx) h hd hdx hg1 hs1 hbx ht hro hk hs hg3 hn
  refine ⟨a2, n2, c2, vs2, by rw [e3], ?_⟩
  rw [e1, e2, e4]
  exact hf
set_option maxHeartbeats 3200000 in
theorem tape_do (g M B s f : Nat) (l : List UInt8) (vs : List Value) (a : Option Addr) (n c F sx : Nat) (lx : List UInt8) (A : TActV) (w : World) (h : TapeIs w g M B s f l vs) (hB : B ≤ w.heap.size) (hd : SlB w a n c lx) (hdx : RX w (TX g M vs) a lx) (hA : A.ok w) (hAx : RX w (TX g M vs) A.a A.b)
    (hsx : 64 ≤ sx ∧ sx ≤ 4096) (hbig : f * s + l.length + A.len ≤ 1099511627776) (hbig2 : F + n + A.len ≤ 1099511627776) :
    Calls Try.prog 16 #[.pointer (some ⟨g, 0, none⟩), .agg #[.slice a n c, .int .i64 (F : Int), .int .i64 (sx : Int)], .agg #[.int .u8 A.k, .slice A.a A.len A.cap, .int .i64 A.n]] w (DoPost w g M B s f l vs F sx lx a A) := by
  have hg1 := grown_trans (grown_trans (World.grownBy_alloc w (.cells #[.slice a n c, .int .i64 (F : Int), .int .i64 (sx : Int)] 29) none) (World.grownBy_alloc _ (.cells #[.int .u8 A.k, .slice A.a A.len A.cap, .int .i64 A.n] 33) none)) (World.grownBy_alloc _ (.cells #[.slice none 0 0, .int .i64 0, .int .i64 0] 29) none)
  have hx1 := ((Box.new w 29 [.slice a n c, .int .i64 (F : Int), .int .i64 (sx : Int)] w.heap.size rfl).alloc (.cells #[.int .u8 A.k, .slice A.a A.len A.cap, .int .i64 A.n] 33)).alloc (.cells #[.slice none 0 0, .int .i64 0, .int .i64 0] 29)
  have hx2 := (Box.new (w.alloc (.cells #[.slice a n c, .int .i64 (F : Int), .int .i64 (sx : Int)] 29)) 33 [.int .u8 A.k, .slice A.a A.len A.cap, .int .i64 A.n] (w.heap.size + 1) (by simp)).alloc (.cells #[.slice none 0 0, .int .i64 0, .int .i64 0] 29)
  have hx3 := Box.new ((w.alloc (.cells #[.slice a n c, .int .i64 (F : Int), .int .i64 (sx : Int)] 29)).alloc (.cells #[.int .u8 A.k, .slice A.a A.len A.cap, .int .i64 A.n] 33)) 29 [.slice none 0 0, .int .i64 0, .int .i64 0] (w.heap.size + 1 + 1) (by simp)
  have hs1 : (((w.alloc (.cells #[.slice a n c, .int .i64 (F : Int), .int .i64 (sx : Int)] 29)).alloc (.cells #[.int .u8 A.k, .slice A.a A.len A.cap, .int .i64 A.n] 33)).alloc (.cells #[.slice none 0 0, .int .i64 0, .int .i64 0] 29)).heap.size = w.heap.size + 1 + 1 + 1 := by simp
  have hlo := h.far
  have hq : 0 ≤ A.k.tmod 4 ∧ A.k.tmod 4 < 4 := by
    have := hA.k
    rw [Int.tmod_eq_emod_of_nonneg this.1]
    omega
  have hAn := hA.n
  have HDO := Lib.hid (And.intro h (And.intro hd (And.intro hdx (And.intro hA hAx))))
  have HB := Lib.hid hB; have HBIG := Lib.hid (And.intro hbig hbig2)
  obtain ⟨w1, hw1⟩ : ∃ w1, ((w.alloc (.cells #[.slice a n c, .int .i64 (F : Int), .int .i64 (sx : Int)] 29)).alloc (.cells #[.int .u8 A.k, .slice A.a A.len A.cap, .int .i64 A.n] 33)).alloc (.cells #[.slice none 0 0, .int .i64 0, .int .i64 0] 29) = w1 := ⟨_, rfl⟩
  rw [hw1] at hg1 hs1
  have hb1 : Box w1 w.heap.size 29 [.slice a n c, .int .i64 (F : Int), .int .i64 (sx : Int)] := by rw [← hw1]; exact hx1
  have hb2 : Box w1 (w.heap.size + 1) 33 [.int .u8 A.k, .slice A.a A.len A.cap, .int .i64 A.n] := by rw [← hw1]; exact hx2
  have hb3 : Box w1 (w.heap.size + 1 + 1) 29 [.slice none 0 0, .int .i64 0, .int .i64 0] := by rw [← hw1]; exact hx3
  have HB1 := Lib.hid hb1; have HB2 := Lib.hid hb2; have HB3 := Lib.hid hb3; have HS1 := Lib.hid (fun _ : True => hs1); have HG1 := Lib.hid hg1; have HW1 := Lib.hid (fun _ : True => hw1); have HLO := Lib.hid hlo
  have HN3 := Lib.hid (show ¬ TX g M vs w.heap.size ∧ ¬ TX g M vs (w.heap.size + 1) ∧ ¬ TX g M vs (w.heap.size + 1 + 1) from ⟨fun e => by have := hlo _ e; omega, fun e => by have := hlo _ e; omega, fun e => by have := hlo _ e; omega⟩)
  have l2 := hb2.look
  obtain ⟨q, hqq⟩ : ∃ q, A.k.tmod 4 = q := ⟨_, rfl⟩
  rw [hqq] at hq
  have HQQ := Lib.hid (fun _ : True => hqq)
  have q1 : IntKind.u8.wrap q = q := by rw [IntKind.wrap_u8]; omega
  clear hx1 hx2 hx3 hs1 hb1 hb2 hb3 hg1 hw1 hlo h hd hdx hA hAx hB hbig hbig2
  go_enter Try.func16, Try.ntmps16
  by_cases h2 : q = 2
  · have e1 := (HQQ.out trivial).trans h2
    have EQ := Lib.hid (fun _ : True => e1)
    clear e1
    go_wp2_with fail
    rw [HW1.out trivial]
    obtain ⟨h, hd, hdx, hA, hAx⟩ := HDO.out
    refine (tape_drop g M B s f l vs A.n w1 (h.grown HG1.out) (by have := HBIG.out.1; omega) hAn.1).mono ?_
    rintro r w2 ⟨rfl, ht, hk⟩
    have hk2 : Kept (TX g M vs) w1 w2 := hk.more (fun k e => e.imp id (fun e => .inl e))
    have hro : RowsOf w1.heap.size vs (vs.drop (dropN s f l.length A.n)) := fun v hv k hk => .inl ⟨v, List.mem_of_mem_drop hv, hk⟩
    clear hk
    have X1 := (HB1.out.keptX hk2 HN3.out.1).look
    have X2 := (HB2.out.keptX hk2 HN3.out.2.1).look
    have X3 := HB3.out.keptX hk2 HN3.out.2.2
    have hd2 := (hd.grown HG1.out).keptX (hdx.kept (Kept.of_grown HG1.out)) hk2
    have hA2 := (hA.b.grown HG1.out).keptX (hAx.kept (Kept.of_grown HG1.out)) hk2
    have HK2 := Lib.hid hk2; have HT2 := Lib.hid ht; have HRO2 := Lib.hid hro
    have HC2 := Lib.hid (ref_drop a n c F sx lx A.n w2 hd2 hsx (by have := HBIG.out.2; omega) hAn.1)
    have HX3 := Lib.hid X3
    clear h hd hdx hA hAx ht hk2 hro X3 hd2 hA2 l2
    go_wp2_with fail
    refine HC2.out.mono ?_
    rintro r w3 ⟨a2, n2, c2, rfl, hs3, hg3, hn3⟩
    have Z1 := (HX3.out.grown hg3).look
    have Z2 := (HX3.out.grown hg3).open
    have HS3 := Lib.hid hs3; have HG3 := Lib.hid hg3; have HN := Lib.hid hn3
    clear hs3 hg3 hn3 X1 X2
    go_wp2_with fail
    refine bodyPost_ret (v := .agg #[.slice a2 n2 c2, .int .i64 ((F + docN F sx n A.n * sx : Nat) : Int), .int .i64 (sx : Int)]) ?_ rfl ?_
    · simp only [results]
      go_simp
    · obtain ⟨h, hd, hdx, hA, hAx⟩ := HDO.out
      exact DoPost.mk' h hd hdx HG1.out (HS1.out trivial) (by omega) HT2.out HRO2.out HK2.out HS3.out HG3.out HN.out (if_pos (EQ.out trivial)) (if_pos (EQ.out trivial)) (by unfold docF; rw [if_pos (EQ.out trivial), hd.len]) (by unfold docL; rw [if_pos (EQ.out trivial), hd.len])
  · by_cases h3 : q = 3
    · have e1 := (HQQ.out trivial).trans h3
      have EQ := Lib.hid (fun _ : True => e1)
      have EN := Lib.hid (fun _ : True => show ¬ A.k.tmod 4 = 2 by rw [e1]; decide)
      clear e1
      go_wp2_with fail
      rw [HW1.out trivial]
      obtain ⟨h, hd, hdx, hA, hAx⟩ := HDO.out
      refine (tape_cut g M B s f l vs A.n w1 (h.grown HG1.out) (Nat.le_trans HB.out HG1.out.size) (by have := HBIG.out.1; omega) hAn.1).mono ?_
      rintro r w2 ⟨rfl, vs2, ht, hro, hk⟩
      have hk2 : Kept (TX g M vs) w1 w2 := hk.more (fun k e => e.imp id (fun e => .inl e))
      clear hk
      have X1 := (HB1.out.keptX hk2 HN3.out.1).look
      have X2 := (HB2.out.keptX hk2 HN3.out.2.1).look
      have X3 := HB3.out.keptX hk2 HN3.out.2.2
      have hd2 := (hd.grown HG1.out).keptX (hdx.kept (Kept.of_grown HG1.out)) hk2
      have hA2 := (hA.b.grown HG1.out).keptX (hAx.kept (Kept.of_grown HG1.out)) hk2
      have HK2 := Lib.hid hk2; have HT2 := Lib.hid ht; have HRO2 := Lib.hid hro
      have HC2 := Lib.hid (ref_cut a n c F sx lx A.n w2 hd2 (by have := HBIG.out.2; omega))
      have HX3 := Lib.hid X3
      clear h hd hdx hA hAx ht hk2 hro X3 hd2 hA2 l2
      go_wp2_with fail
      refine HC2.out.mono ?_
      rintro r w3 ⟨a2, n2, c2, rfl, hs3, hg3, hn3⟩
      have Z1 := (HX3.out.grown hg3).look
      have Z2 := (HX3.out.grown hg3).open
      have HS3 := Lib.hid hs3; have HG3 := Lib.hid hg3; have HN := Lib.hid hn3
      clear hs3 hg3 hn3 X1 X2
      go_wp2_with fail
      refine bodyPost_ret (v := .agg #[.slice a2 n2 c2, .int .i64 ((F : Nat) : Int), .int .i64 (sx : Int)]) ?_ rfl ?_
      · simp only [results]
        go_simp
      · obtain ⟨h, hd, hdx, hA, hAx⟩ := HDO.out
        exact DoPost.mk' h hd hdx HG1.out (HS1.out trivial) (by omega) HT2.out HRO2.out HK2.out HS3.out HG3.out HN.out (if_neg (EN.out trivial)) ((if_neg (EN.out trivial)).trans (if_pos (EQ.out trivial))) (if_neg (EN.out trivial)) ((if_neg (EN.out trivial)).trans (if_pos (EQ.out trivial)))
    · have EN := Lib.hid (fun _ : True => show ¬ A.k.tmod 4 = 2 by rw [HQQ.out trivial]; exact h2)
      have EQ := Lib.hid (fun _ : True => show ¬ A.k.tmod 4 = 3 by rw [HQQ.out trivial]; exact h3)
      go_wp2_with fail
      rw [HW1.out trivial]
      obtain ⟨h, hd, hdx, hA, hAx⟩ := HDO.out
      refine (tape_append g M B s f l A.b vs A.a A.len A.cap w1 (h.grown HG1.out) (Nat.le_trans HB.out HG1.out.size) (hAx.kept (Kept.of_grown HG1.out)) hA.b.len_eq hA.b.cap_le hA.b.max (by have := HBIG.out.1; omega)).mono ?_
      rintro r w2 ⟨rfl, vs2, ht, hro, hk2⟩
      have X1 := (HB1.out.keptX hk2 HN3.out.1).look
      have X2 := (HB2.out.keptX hk2 HN3.out.2.1).look
      have X3 := HB3.out.keptX hk2 HN3.out.2.2
      have hd2 := (hd.grown HG1.out).keptX (hdx.kept (Kept.of_grown HG1.out)) hk2
      have hA2 := (hA.b.grown HG1.out).keptX (hAx.kept (Kept.of_grown HG1.out)) hk2
      have HK2 := Lib.hid hk2; have HT2 := Lib.hid ht; have HRO2 := Lib.hid hro
      have HC2 := Lib.hid (ref_append a n c F sx lx A.a A.len A.cap A.b w2 hd2 hA2 (by have := HBIG.out.2; omega))
      have HX3 := Lib.hid X3
      clear h hd hdx hA hAx ht hk2 hro X3 hd2 hA2 l2
      go_wp2_with fail
      refine HC2.out.mono ?_
      rintro r w3 ⟨a2, n2, c2, rfl, hs3, hg3, hn3⟩
      have Z1 := (HX3.out.grown hg3).look
      have Z2 := (HX3.out.grown hg3).open
      have HS3 := Lib.hid hs3; have HG3 := Lib.hid hg3; have HN := Lib.hid hn3
      clear hs3 hg3 hn3 X1 X2
      go_wp2_with fail
      refine bodyPost_ret (v := .agg #[.slice a2 n2 c2, .int .i64 ((F : Nat) : Int), .int .i64 (sx : Int)]) ?_ rfl ?_
      · simp only [results]
        go_simp
      · obtain ⟨h, hd, hdx, hA, hAx⟩ := HDO.out
        exact DoPost.mk' h hd hdx HG1.out (HS1.out trivial) (by omega) HT2.out HRO2.out HK2.out HS3.out HG3.out HN.out (if_neg (EN.out trivial)) ((if_neg (EN.out trivial)).trans (if_neg (EQ.out trivial))) (if_neg (EN.out trivial)) ((if_neg (EN.out trivial)).trans (if_neg (EQ.out trivial)))

end Go.Proofs.Ytfmcbnoldcfcbaa
