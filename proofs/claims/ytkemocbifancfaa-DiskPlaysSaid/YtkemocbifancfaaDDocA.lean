/-
  The document's volume and tape in memory, and its 'do'.
-/
import Derived.Test.YtkemocbifancfaaDPlayed
namespace Go.Proofs.Ytkemocbifancfaa
open Go.RowKit
set_option maxRecDepth 100000

theorem RX.more {w : World} {X Y : Nat → Prop} {a : Option Addr} {l : List UInt8} (h : RX w X a l) (hY : ∀ k, Y k → X k ∨ w.heap.size ≤ k) : RX w Y a l := fun i hi => by
  obtain ⟨b, o, e, hx, hc⟩ := h i hi
  refine ⟨b, o, e, fun hy => ?_, hc⟩
  have := World.block_lt_of_cell? w _ hc
  rcases hY b hy with h1 | h1
  · exact hx h1
  · simp only at this; omega
theorem RVB.more {w : World} {X Y : Nat → Prop} {a : Option Addr} {bs : List (List UInt8)} (h : RVB w X a bs) (hY : ∀ k, Y k → X k ∨ w.heap.size ≤ k) : RVB w Y a bs := by
  intro i hi
  obtain ⟨b', o, e, hx, a', n, c, hc, hn, hr⟩ := h i hi
  have h1 := World.block_lt_of_cell? w _ hc
  refine ⟨b', o, e, fun hy => ?_, a', n, c, hc, hn, hr.more hY⟩
  rcases hY b' hy with h2 | h2
  · exact hx h2
  · simp only at h1; omega
theorem RefVol.more {w : World} {X Y : Nat → Prop} {bs : List (List UInt8)} {sz : Nat} {V : Value} (h : RefVol w X bs sz V) (hY : ∀ k, Y k → X k ∨ w.heap.size ≤ k) : RefVol w Y bs sz V := by
  obtain ⟨a, n, c, e, h1, h2, h3⟩ := h
  exact ⟨a, n, c, e, h1, h2.more hY, h3⟩
/-- the document's volume and tape that have these bytes -/
structure RefFace (w : World) (X : Nat → Prop) (nb sz N s : Nat) (F : FaceV) (va : Option Addr) (vc : Nat) (ta : Option Addr) (tn tc : Nat) : Prop where
  vol : ∃ bs, RefVol w X bs sz (.agg #[.slice va nb vc, .int .i64 (sz : Int)]) ∧ Match nb sz bs F.L
  tape : SlB w ta tn tc F.l
  rx : RX w X ta F.l
  mul : nb * sz = N
  len : F.L.length = N
  nb_le : nb ≤ 1024
  sz_le : sz ≤ 4096
  seg : 64 ≤ s ∧ s ≤ 4096
section
variable {w : World} {X : Nat → Prop} {nb sz N s : Nat} {F : FaceV} {va : Option Addr} {vc : Nat} {ta : Option Addr} {tn tc : Nat}
theorem RefFace.kept {w' : World} (h : RefFace w X nb sz N s F va vc ta tn tc) (hk : Kept X w w') : RefFace w' X nb sz N s F va vc ta tn tc := by
  obtain ⟨bs, h1, h2⟩ := h.vol
  exact ⟨⟨bs, h1.kept hk, h2⟩, h.tape.keptX h.rx hk, h.rx.kept hk, h.mul, h.len, h.nb_le, h.sz_le, h.seg⟩
theorem RefFace.grown {w' : World} (h : RefFace w X nb sz N s F va vc ta tn tc) (hg : w.grownBy w' none) : RefFace w' X nb sz N s F va vc ta tn tc := h.kept (Kept.of_grown hg)
theorem RefFace.more {Y : Nat → Prop} (h : RefFace w X nb sz N s F va vc ta tn tc) (hY : ∀ k, Y k → X k ∨ w.heap.size ≤ k) : RefFace w Y nb sz N s F va vc ta tn tc := by
  obtain ⟨bs, h1, h2⟩ := h.vol
  exact ⟨⟨bs, h1.more hY, h2⟩, h.tape, h.rx.more hY, h.mul, h.len, h.nb_le, h.sz_le, h.seg⟩
/-- another volume -/
theorem RefFace.newVol {w' : World} (h : RefFace w X nb sz N s F va vc ta tn tc) (hg : w.grownBy w' none) {bs : List (List UInt8)} {va' : Option Addr} {vc' : Nat} {L : List UInt8} (hv : RefVol w' X bs sz (.agg #[.slice va' nb vc', .int .i64 (sz : Int)])) (hm : Match nb sz bs L) (hl : L.length = N) : RefFace w' X nb sz N s ⟨L, F.f, F.l⟩ va' vc' ta tn tc :=
  ⟨⟨bs, hv, hm⟩, h.tape.grown hg, (h.rx.kept (Kept.of_grown hg)), h.mul, hl, h.nb_le, h.sz_le, h.seg⟩
/-- another tape -/
theorem RefFace.newTape {w' : World} (h : RefFace w X nb sz N s F va vc ta tn tc) (hX : ∀ k, w.heap.size ≤ k → ¬ X k) (hg : w.grownBy w' none) {a : Option Addr} {n c : Nat} {l : List UInt8} (f : Nat) (hs : SlB w' a n c l) (hn : Near w F.l ta l a) : RefFace w' X nb sz N s ⟨F.L, f, l⟩ va vc a n c := by
  obtain ⟨bs, h1, h2⟩ := h.vol
  refine ⟨⟨bs, h1.kept (Kept.of_grown hg), h2⟩, hs, ?_, h.mul, h.len, h.nb_le, h.sz_le, h.seg⟩
  refine RX.of_rb hs.rb (fun ad e hne hx => ?_)
  rcases hn ad e hne with ⟨h0, ad0, e0, e1⟩ | h3
  · obtain ⟨b0, o0, e2, hnx, _⟩ := h.rx 0 (List.length_pos_iff.2 h0)
    rw [e0] at e2
    cases e2
    simp only at e1
    exact hnx (e1 ▸ hx)
  · exact hX _ h3 hx
end
/-- the two values -/
def vAgg (nb sz : Nat) (va : Option Addr) (vc : Nat) : Value := .agg #[.slice va nb vc, .int .i64 (sz : Int)]
def tAgg (F s : Nat) (ta : Option Addr) (tn tc : Nat) : Value := .agg #[.slice ta tn tc, .int .i64 (F : Int), .int .i64 (s : Int)]
def RefDoPost (w : World) (X : Nat → Prop) (nb sz N s : Nat) (F : FaceV) (r : Ending) (w' : World) : Prop :=
  ∃ va vc ta tn tc, r = .returned (.tuple #[.agg #[.slice va nb vc, .int .i64 (sz : Int)], .agg #[.slice ta tn tc, .int .i64 ((F.f * s : Nat) : Int), .int .i64 (s : Int)]]) ∧ RefFace w' X nb sz N s F va vc ta tn tc ∧ w.grownBy w' none
theorem kset {Z : Nat → Prop} {w u : World} (h : Kept Z w u) {k o : Nat} {v : Value} (hk : Z k) : Kept Z w (u.setCell ⟨k, o, none⟩ v) := h.trans (Kept.of_row (grown_setCell _ _ _ _) hk)
theorem kdrew {Z : Nat → Prop} {w u : World} (h : Kept Z w u) : Kept Z w u.drew := h.trans (Kept.of_grown (grown_drew1 _))
/-- a world in which blocks from n on alone were written -/
theorem Kept.own {Z : Nat → Prop} {w w1 w2 : World} (hg : w.grownBy w1 none) (hk : Kept Z w1 w2) (hZ : ∀ k, Z k → w.heap.size ≤ k) : w.grownBy w2 none := by
  have h := (Kept.of_grown (X := Z) hg).trans hk
  exact ⟨h.os, h.tape, h.output, h.size, fun q hq _ => h.block q hq (fun hz => by have := hZ q hz; omega)⟩
/-- the end of 'do': the two results are stored -/
theorem refdo_fin {w w3 w4 : World} {X : Nat → Prop} {p q nb sz N s : Nat} {F : FaceV} {va : Option Addr} {vc : Nat} {ta : Option Addr} {tn tc : Nat} (h : RefFace w3 (fun k => X k ∨ k = p ∨ k = q) nb sz N s F va vc ta tn tc) (hg : w.grownBy w3 none) (hp : w.heap.size ≤ p) (hq : w.heap.size ≤ q) (hk : Kept (fun k => k = p ∨ k = q) w3 w4) :
    RefDoPost w X nb sz N s F (.returned (.tuple #[.agg #[.slice va nb vc, .int .i64 (sz : Int)], .agg #[.slice ta tn tc, .int .i64 ((F.f * s : Nat) : Int), .int .i64 (s : Int)]])) w4 :=
  ⟨va, vc, ta, tn, tc, rfl, (h.kept (hk.more (fun k e => .inr e))).more (fun k e => .inl (.inl e)), Kept.own hg hk (fun k e => by rcases e with rfl | rfl <;> assumption)⟩
theorem five_boxes (w : World) (T4 T5 T6 T8 T9 : TypeId) (c4 c5 c6 c8 c9 : List Value) : ∃ w1, (((((w.alloc (.cells c4.toArray T4)).alloc (.cells c5.toArray T5)).alloc (.cells c6.toArray T6)).alloc (.cells c8.toArray T8)).alloc (.cells c9.toArray T9)) = w1 ∧ w.grownBy w1 none ∧ w1.heap.size = w.heap.size + 5 ∧
    Box w1 w.heap.size T4 c4 ∧ Box w1 (w.heap.size + 1) T5 c5 ∧ Box w1 (w.heap.size + 2) T6 c6 ∧ Box w1 (w.heap.size + 3) T8 c8 ∧ Box w1 (w.heap.size + 4) T9 c9 :=
  ⟨_, rfl, growA _ _ (growA _ _ (growA _ _ (growA _ _ (growA _ _ (World.grownBy.refl _ _))))), by simp,
    ((((Box.new w T4 c4 _ rfl).alloc _).alloc _).alloc _).alloc _, (((Box.new _ T5 c5 _ (by simp)).alloc _).alloc _).alloc _, ((Box.new _ T6 c6 _ (by simp)).alloc _).alloc _, (Box.new _ T8 c8 _ (by simp)).alloc _, Box.new _ T9 c9 _ (by simp)⟩

section
variable {w : World} {X : Nat → Prop} {nb sz N s : Nat} {F : FaceV} {va : Option Addr} {vc : Nat} {ta : Option Addr} {tn tc : Nat} (h : RefFace w X nb sz N s F va vc ta tn tc) (hX : ∀ k, w.heap.size ≤ k → ¬ X k) (i m n : Int) (b : List UInt8) (xa : Option Addr) (xn xc : Nat) (hx : InB w xa xn xc b)
set_option maxHeartbeats 3200000 in
include h hX hx in
theorem ref_do_put (hn : n < 0) :
    Calls Try.prog 65 #[.agg #[.slice va nb vc, .int .i64 (sz : Int)], .agg #[.slice ta tn tc, .int .i64 ((F.f * s : Nat) : Int), .int .i64 (s : Int)], .agg #[.int .i64 0, .int .i64 i, .slice xa xn xc, .int .i64 m], .int .i64 n] w (RefDoPost w X nb sz N s ⟨(tearV nb sz F.L i b sz).1, F.f, F.l⟩) := by
  obtain ⟨w1, hw1, hg1, hs1, b4, b5, b6, b8, b9⟩ := five_boxes w 48 50 86 48 50 [.slice va nb vc, .int .i64 (sz : Int)] [.slice ta tn tc, .int .i64 ((F.f * s : Nat) : Int), .int .i64 (s : Int)] [.int .i64 0, .int .i64 i, .slice xa xn xc, .int .i64 m] [.slice none 0 0, .int .i64 0] [.slice none 0 0, .int .i64 0, .int .i64 0]
  have h1 := (h.more (Y := fun k => X k ∨ k = w.heap.size + 3 ∨ k = w.heap.size + 4) (fun k e => e.imp id (fun e => by omega))).grown hg1
  have hZ : ∀ k, w1.heap.size ≤ k → ¬ (X k ∨ k = w.heap.size + 3 ∨ k = w.heap.size + 4) := fun k hk e => by
    rcases e with e | e
    · exact hX k (by omega) e
    · omega
  obtain ⟨bs, hv, hm⟩ := h1.vol
  have hbl := hm.1
  have hc := refv_put_any hv hZ i xa xn xc b hx.len_eq (hx.reads.oldg hg1) (by rw [hbl]; exact h.nb_le) h.sz_le
  have htm := tear_match h.mul h.len hm i b sz
  obtain ⟨R, hR⟩ : ∃ R, refTear sz bs i b sz = R := ⟨_, rfl⟩
  rw [hR] at hc htm
  have HC := Lib.hid hc; have HTM := Lib.hid htm; have H1 := Lib.hid h1; have HL := Lib.hid (tearV_length h.mul h.len i b sz)
  have HW := Lib.hid (fun _ : True => hw1)
  have HG := Lib.hid hg1
  obtain ⟨Fs, hFs⟩ : ∃ Fs, F.f * s = Fs := ⟨_, rfl⟩
  rw [hFs] at b5 HW ⊢
  have HFs := Lib.hid (fun _ : True => hFs)
  have B5 := Lib.hid b5; have B8 := Lib.hid b8; have B9 := Lib.hid b9
  have y4 := b4.look
  have y6 := b6.look
  clear h hX hx h1 hZ hv hm hbl hc htm hR hw1 hg1 hs1 hFs b4 b5 b6 b8 b9
  go_enter Try.func65, Try.ntmps65
  go_wp2_with fail
  rw [HW.out trivial]
  go_wp2_with fail
  refine HC.out.mono ?_
  rintro e w2 ⟨v, rfl, hv2, hg2⟩
  obtain ⟨a', c', rfl⟩ := hv2.open
  rw [HTM.out.1.1] at hv2 ⊢
  have hf := RefFace.newVol H1.out hg2 hv2 HTM.out.1 HL.out
  have hga := World.grownBy_alloc w2 (.cells #[.slice a' nb c', .int .i64 (sz : Int)] 48) none
  have hbn := Box.new w2 48 [.slice a' nb c', .int .i64 (sz : Int)] w2.heap.size rfl
  obtain ⟨w3, hw3⟩ : ∃ u, w2.alloc (.cells #[.slice a' nb c', .int .i64 (sz : Int)] 48) = u := ⟨_, rfl⟩
  rw [hw3] at hga hbn
  have HW3 := Lib.hid (fun _ : True => hw3)
  have HF := Lib.hid (hf.grown hga)
  have HG3 := Lib.hid (grown_trans HG.out (grown_trans hg2 hga))
  have y11 := hbn.look
  have y5 := (B5.out.grown (grown_trans hg2 hga)).look
  have y8 := (B8.out.grown (grown_trans hg2 hga)).look
  have y9 := (B9.out.grown (grown_trans hg2 hga)).look
  have o8 := (B8.out.grown (grown_trans hg2 hga)).open
  have o9 := (B9.out.grown (grown_trans hg2 hga)).open
  have SI := set_idx
  have SF := set_far
  clear hv2 hg2 hf hga hbn hw3 HC
  go_wp2_with fail
  rw [HW3.out trivial]
  clear y4 y6
  go_region_law (fail)
  all_goals (
    go_wp2_with fail
    refine bodyPost_ret (v := .tuple #[.agg #[.slice a' nb c', .int .i64 (sz : Int)], .agg #[.slice ta tn tc, .int .i64 (Fs : Int), .int .i64 (s : Int)]]) ?_ rfl ?_
    · simp only [results]
      go_simp
    · rw [← HFs.out trivial]
      exact refdo_fin HF.out HG3.out (by omega) (by omega) (by with_reducible (repeat (first | refine kset ?_ (by first | exact .inl rfl | exact .inr rfl) | refine kdrew ?_ | exact Kept.refl _ _))))
set_option maxHeartbeats 3200000 in
include h hX hx in
theorem ref_do_tear (hn : ¬ n < 0) :
    Calls Try.prog 65 #[.agg #[.slice va nb vc, .int .i64 (sz : Int)], .agg #[.slice ta tn tc, .int .i64 ((F.f * s : Nat) : Int), .int .i64 (s : Int)], .agg #[.int .i64 0, .int .i64 i, .slice xa xn xc, .int .i64 m], .int .i64 n] w (RefDoPost w X nb sz N s ⟨(tearV nb sz F.L i b n).1, F.f, F.l⟩) := by
  obtain ⟨w1, hw1, hg1, hs1, b4, b5, b6, b8, b9⟩ := five_boxes w 48 50 86 48 50 [.slice va nb vc, .int .i64 (sz : Int)] [.slice ta tn tc, .int .i64 ((F.f * s : Nat) : Int), .int .i64 (s : Int)] [.int .i64 0, .int .i64 i, .slice xa xn xc, .int .i64 m] [.slice none 0 0, .int .i64 0] [.slice none 0 0, .int .i64 0, .int .i64 0]
  have h1 := (h.more (Y := fun k => X k ∨ k = w.heap.size + 3 ∨ k = w.heap.size + 4) (fun k e => e.imp id (fun e => by omega))).grown hg1
  have hZ : ∀ k, w1.heap.size ≤ k → ¬ (X k ∨ k = w.heap.size + 3 ∨ k = w.heap.size + 4) := fun k hk e => by
    rcases e with e | e
    · exact hX k (by omega) e
    · omega
  obtain ⟨bs, hv, hm⟩ := h1.vol
  have hbl := hm.1
  have hc := refv_tear_any hv hZ i n xa xn xc b hx.len_eq (hx.reads.oldg hg1) (by rw [hbl]; exact h.nb_le) h.sz_le
  have htm := tear_match h.mul h.len hm i b n
  obtain ⟨R, hR⟩ : ∃ R, refTear sz bs i b n = R := ⟨_, rfl⟩
  rw [hR] at hc htm
  have HC := Lib.hid hc; have HTM := Lib.hid htm; have H1 := Lib.hid h1; have HL := Lib.hid (tearV_length h.mul h.len i b n)
  have HW := Lib.hid (fun _ : True => hw1)
  have HG := Lib.hid hg1
  obtain ⟨Fs, hFs⟩ : ∃ Fs, F.f * s = Fs := ⟨_, rfl⟩
  rw [hFs] at b5 HW ⊢
  have HFs := Lib.hid (fun _ : True => hFs)
  have B5 := Lib.hid b5; have B8 := Lib.hid b8; have B9 := Lib.hid b9
  have y4 := b4.look
  have y6 := b6.look
  clear h hX hx h1 hZ hv hm hbl hc htm hR hw1 hg1 hs1 hFs b4 b5 b6 b8 b9
  go_enter Try.func65, Try.ntmps65
  go_wp2_with fail
  rw [HW.out trivial]
  go_wp2_with fail
  refine HC.out.mono ?_
  rintro e w2 ⟨v, rfl, hv2, hg2⟩
  obtain ⟨a', c', rfl⟩ := hv2.open
  rw [HTM.out.1.1] at hv2 ⊢
  have hf := RefFace.newVol H1.out hg2 hv2 HTM.out.1 HL.out
  have hga := World.grownBy_alloc w2 (.cells #[.slice a' nb c', .int .i64 (sz : Int)] 48) none
  have hbn := Box.new w2 48 [.slice a' nb c', .int .i64 (sz : Int)] w2.heap.size rfl
  obtain ⟨w3, hw3⟩ : ∃ u, w2.alloc (.cells #[.slice a' nb c', .int .i64 (sz : Int)] 48) = u := ⟨_, rfl⟩
  rw [hw3] at hga hbn
  have HW3 := Lib.hid (fun _ : True => hw3)
  have HF := Lib.hid (hf.grown hga)
  have HG3 := Lib.hid (grown_trans HG.out (grown_trans hg2 hga))
  have y11 := hbn.look
  have y5 := (B5.out.grown (grown_trans hg2 hga)).look
  have y8 := (B8.out.grown (grown_trans hg2 hga)).look
  have y9 := (B9.out.grown (grown_trans hg2 hga)).look
  have o8 := (B8.out.grown (grown_trans hg2 hga)).open
  have o9 := (B9.out.grown (grown_trans hg2 hga)).open
  have SI := set_idx
  have SF := set_far
  clear hv2 hg2 hf hga hbn hw3 HC
  go_wp2_with fail
  rw [HW3.out trivial]
  clear y4 y6
  go_region_law (fail)
  all_goals (
    go_wp2_with fail
    refine bodyPost_ret (v := .tuple #[.agg #[.slice a' nb c', .int .i64 (sz : Int)], .agg #[.slice ta tn tc, .int .i64 (Fs : Int), .int .i64 (s : Int)]]) ?_ rfl ?_
    · simp only [results]
      go_simp
    · rw [← HFs.out trivial]
      exact refdo_fin HF.out HG3.out (by omega) (by omega) (by with_reducible (repeat (first | refine kset ?_ (by first | exact .inl rfl | exact .inr rfl) | refine kdrew ?_ | exact Kept.refl _ _))))
set_option maxHeartbeats 3200000 in
include h hX hx in
theorem ref_do_appN (hn : ¬ n < 0) (hge : ¬ n < (xn : Int)) (hbig : F.f * s + F.l.length + xn ≤ 1099511627776) :
    Calls Try.prog 65 #[.agg #[.slice va nb vc, .int .i64 (sz : Int)], .agg #[.slice ta tn tc, .int .i64 ((F.f * s : Nat) : Int), .int .i64 (s : Int)], .agg #[.int .i64 1, .int .i64 i, .slice xa xn xc, .int .i64 m], .int .i64 n] w (RefDoPost w X nb sz N s ⟨F.L, F.f, F.l ++ b⟩) := by
  obtain ⟨w1, hw1, hg1, hs1, b4, b5, b6, b8, b9⟩ := five_boxes w 48 50 86 48 50 [.slice va nb vc, .int .i64 (sz : Int)] [.slice ta tn tc, .int .i64 ((F.f * s : Nat) : Int), .int .i64 (s : Int)] [.int .i64 1, .int .i64 i, .slice xa xn xc, .int .i64 m] [.slice none 0 0, .int .i64 0] [.slice none 0 0, .int .i64 0, .int .i64 0]
  have h1 := (h.more (Y := fun k => X k ∨ k = w.heap.size + 3 ∨ k = w.heap.size + 4) (fun k e => e.imp id (fun e => by omega))).grown hg1
  have hZ : ∀ k, w1.heap.size ≤ k → ¬ (X k ∨ k = w.heap.size + 3 ∨ k = w.heap.size + 4) := fun k hk e => by
    rcases e with e | e
    · exact hX k (by omega) e
    · omega
  have htl := h.tape.len
  have hc : ∀ u, Kept (fun k => k = w.heap.size + 3 ∨ k = w.heap.size + 4) w1 u → Calls Try.prog 75 #[.agg #[.slice ta tn tc, .int .i64 ((F.f * s : Nat) : Int), .int .i64 (s : Int)], .slice xa xn xc] u (DocPost u F.l ta ((⟨F.L, F.f, F.l ++ b⟩ : FaceV).f * s) s (F.l ++ b)) := fun u hu => ref_append ta tn tc (F.f * s) s F.l xa xn xc b u ((h1.tape).keptX h1.rx (hu.more (fun k e => .inr e))) (⟨hx.len_eq, hx.cap_le, hx.max, hx.nil, ((RX.new (hx.reads) hg1 (fun k e => by rcases e with rfl | rfl <;> omega)).kept hu).rb⟩ : InB u xa xn xc b) (by omega)
  have hnt : ∀ u, Kept (fun k => k = w.heap.size + 3 ∨ k = w.heap.size + 4) w1 u → ∀ w5, u.grownBy w5 none → ∀ a n c, SlB w5 a n c (F.l ++ b) → Near u F.l ta (F.l ++ b) a → RefFace w5 (fun k => X k ∨ k = w.heap.size + 3 ∨ k = w.heap.size + 4) nb sz N s ⟨F.L, F.f, F.l ++ b⟩ va vc a n c := fun u hu w5 hg a n c hs hn => (h1.kept (hu.more (fun k e => .inr e))).newTape (fun k hk => hZ k (Nat.le_trans hu.size hk)) hg _ hs hn
  have HOWN := Lib.hid (fun u (hu : Kept (fun k => k = w.heap.size + 3 ∨ k = w.heap.size + 4) w1 u) => Kept.own hg1 hu (fun k e => by rcases e with rfl | rfl <;> omega))
  have HB4 := Lib.hid (fun u (hu : Kept (fun k => k = w.heap.size + 3 ∨ k = w.heap.size + 4) w1 u) => b4.keptX hu (by omega))
  have HC := Lib.hid hc; have HNT := Lib.hid hnt
  have HW := Lib.hid (fun _ : True => hw1)
  have HG := Lib.hid hg1
  obtain ⟨Fs, hFs⟩ : ∃ Fs, F.f * s = Fs := ⟨_, rfl⟩
  rw [hFs] at b5 HW ⊢
  have HFs := Lib.hid (fun _ : True => hFs)
  have B5 := Lib.hid b5; have B8 := Lib.hid b8; have B9 := Lib.hid b9
  have y4 := b4.look
  have y6 := b6.look
  rw [hFs] at HC
  have HEF := HFs
  have y5 := b5.look
  have y8 := b8.look
  have y9 := b9.look
  have o8 := b8.open
  have o9 := b9.open
  have SI := set_idx
  have SF := set_far
  clear h hX hx h1 hZ hc hnt hw1 hg1 hs1 hFs b4 b5 b6 b8 b9
  go_enter Try.func65, Try.ntmps65
  go_wp2_with fail
  rw [HW.out trivial]
  go_wp2_with fail
  go_region_law (first
    | (go_simp
       go_at_call 75
       refine (HC.out _ (by with_reducible (repeat (first | refine kset ?_ (by first | exact .inl rfl | exact .inr rfl) | refine kdrew ?_ | exact Kept.refl _ _)))).mono ?_
       rintro r w5 ⟨a5, n5, c5, rfl, hs5, hg5, hn5⟩
       have hf5 := HNT.out _ (by with_reducible (repeat (first | refine kset ?_ (by first | exact .inl rfl | exact .inr rfl) | refine kdrew ?_ | exact Kept.refl _ _))) w5 hg5 a5 n5 c5 hs5 hn5
       have HF5 := Lib.hid hf5
       have HG5 := Lib.hid (grown_trans (HOWN.out _ (by with_reducible (repeat (first | refine kset ?_ (by first | exact .inl rfl | exact .inr rfl) | refine kdrew ?_ | exact Kept.refl _ _)))) hg5)
       have z4 := ((HB4.out _ (by with_reducible (repeat (first | refine kset ?_ (by first | exact .inl rfl | exact .inr rfl) | refine kdrew ?_ | exact Kept.refl _ _)))).grown hg5).look
       with_reducible (first
         | (have z8 := B8.out.grown hg5; have z9 := B9.out.grown hg5)
         | (have z8 := B8.out.drew.grown hg5; have z9 := B9.out.drew.grown hg5)
         | (have z8 := ((B8.out.set 0 _).set 1 _).grown hg5; have z9 := (B9.out.set2 _ (by omega) _ _).grown hg5)
         | (have z8 := (((B8.out.set 0 _).set 1 _).drew).grown hg5; have z9 := ((B9.out.set2 _ (by omega) _ _).drew).grown hg5)
         | (have z8 := (((B8.out.drew).set 0 _).set 1 _).grown hg5; have z9 := (B9.out.drew.set2 _ (by omega) _ _).grown hg5))
       have q8 := z8.look
       have q9 := z9.look
       have p8 := z8.open
       have p9 := z9.open
       clear hs5 hg5 hn5 hf5 z8 z9))
  all_goals (
    go_wp2_with fail
    refine bodyPost_ret (v := .tuple #[.agg #[.slice va nb vc, .int .i64 (sz : Int)], .agg #[.slice a5 n5 c5, .int .i64 (Fs : Int), .int .i64 (s : Int)]]) ?_ rfl ?_
    · simp only [results]
      go_simp
    · rw [← HEF.out trivial]
      exact refdo_fin HF5.out HG5.out (by omega) (by omega) (by with_reducible (repeat (first | refine kset ?_ (by first | exact .inl rfl | exact .inr rfl) | refine kdrew ?_ | exact Kept.refl _ _))))
set_option maxHeartbeats 3200000 in
include h hX hx in
theorem ref_do_app (hn : n < 0) (hbig : F.f * s + F.l.length + xn ≤ 1099511627776) :
    Calls Try.prog 65 #[.agg #[.slice va nb vc, .int .i64 (sz : Int)], .agg #[.slice ta tn tc, .int .i64 ((F.f * s : Nat) : Int), .int .i64 (s : Int)], .agg #[.int .i64 1, .int .i64 i, .slice xa xn xc, .int .i64 m], .int .i64 n] w (RefDoPost w X nb sz N s ⟨F.L, F.f, F.l ++ b⟩) := by
  obtain ⟨w1, hw1, hg1, hs1, b4, b5, b6, b8, b9⟩ := five_boxes w 48 50 86 48 50 [.slice va nb vc, .int .i64 (sz : Int)] [.slice ta tn tc, .int .i64 ((F.f * s : Nat) : Int), .int .i64 (s : Int)] [.int .i64 1, .int .i64 i, .slice xa xn xc, .int .i64 m] [.slice none 0 0, .int .i64 0] [.slice none 0 0, .int .i64 0, .int .i64 0]
  have h1 := (h.more (Y := fun k => X k ∨ k = w.heap.size + 3 ∨ k = w.heap.size + 4) (fun k e => e.imp id (fun e => by omega))).grown hg1
  have hZ : ∀ k, w1.heap.size ≤ k → ¬ (X k ∨ k = w.heap.size + 3 ∨ k = w.heap.size + 4) := fun k hk e => by
    rcases e with e | e
    · exact hX k (by omega) e
    · omega
  have htl := h.tape.len
  have hc : ∀ u, Kept (fun k => k = w.heap.size + 3 ∨ k = w.heap.size + 4) w1 u → Calls Try.prog 75 #[.agg #[.slice ta tn tc, .int .i64 ((F.f * s : Nat) : Int), .int .i64 (s : Int)], .slice xa xn xc] u (DocPost u F.l ta ((⟨F.L, F.f, F.l ++ b⟩ : FaceV).f * s) s (F.l ++ b)) := fun u hu => ref_append ta tn tc (F.f * s) s F.l xa xn xc b u ((h1.tape).keptX h1.rx (hu.more (fun k e => .inr e))) (⟨hx.len_eq, hx.cap_le, hx.max, hx.nil, ((RX.new (hx.reads) hg1 (fun k e => by rcases e with rfl | rfl <;> omega)).kept hu).rb⟩ : InB u xa xn xc b) (by omega)
  have hnt : ∀ u, Kept (fun k => k = w.heap.size + 3 ∨ k = w.heap.size + 4) w1 u → ∀ w5, u.grownBy w5 none → ∀ a n c, SlB w5 a n c (F.l ++ b) → Near u F.l ta (F.l ++ b) a → RefFace w5 (fun k => X k ∨ k = w.heap.size + 3 ∨ k = w.heap.size + 4) nb sz N s ⟨F.L, F.f, F.l ++ b⟩ va vc a n c := fun u hu w5 hg a n c hs hn => (h1.kept (hu.more (fun k e => .inr e))).newTape (fun k hk => hZ k (Nat.le_trans hu.size hk)) hg _ hs hn
  have HOWN := Lib.hid (fun u (hu : Kept (fun k => k = w.heap.size + 3 ∨ k = w.heap.size + 4) w1 u) => Kept.own hg1 hu (fun k e => by rcases e with rfl | rfl <;> omega))
  have HB4 := Lib.hid (fun u (hu : Kept (fun k => k = w.heap.size + 3 ∨ k = w.heap.size + 4) w1 u) => b4.keptX hu (by omega))
  have HC := Lib.hid hc; have HNT := Lib.hid hnt
  have HW := Lib.hid (fun _ : True => hw1)
  have HG := Lib.hid hg1
  obtain ⟨Fs, hFs⟩ : ∃ Fs, F.f * s = Fs := ⟨_, rfl⟩
  rw [hFs] at b5 HW ⊢
  have HFs := Lib.hid (fun _ : True => hFs)
  have B5 := Lib.hid b5; have B8 := Lib.hid b8; have B9 := Lib.hid b9
  have y4 := b4.look
  have y6 := b6.look
  rw [hFs] at HC
  have HEF := HFs
  have y5 := b5.look
  have y8 := b8.look
  have y9 := b9.look
  have o8 := b8.open
  have o9 := b9.open
  have SI := set_idx
  have SF := set_far
  clear h hX hx h1 hZ hc hnt hw1 hg1 hs1 hFs b4 b5 b6 b8 b9
  go_enter Try.func65, Try.ntmps65
  go_wp2_with fail
  rw [HW.out trivial]
  go_wp2_with fail
  go_region_law (first
    | (go_simp
       go_at_call 75
       refine (HC.out _ (by with_reducible (repeat (first | refine kset ?_ (by first | exact .inl rfl | exact .inr rfl) | refine kdrew ?_ | exact Kept.refl _ _)))).mono ?_
       rintro r w5 ⟨a5, n5, c5, rfl, hs5, hg5, hn5⟩
       have hf5 := HNT.out _ (by with_reducible (repeat (first | refine kset ?_ (by first | exact .inl rfl | exact .inr rfl) | refine kdrew ?_ | exact Kept.refl _ _))) w5 hg5 a5 n5 c5 hs5 hn5
       have HF5 := Lib.hid hf5
       have HG5 := Lib.hid (grown_trans (HOWN.out _ (by with_reducible (repeat (first | refine kset ?_ (by first | exact .inl rfl | exact .inr rfl) | refine kdrew ?_ | exact Kept.refl _ _)))) hg5)
       have z4 := ((HB4.out _ (by with_reducible (repeat (first | refine kset ?_ (by first | exact .inl rfl | exact .inr rfl) | refine kdrew ?_ | exact Kept.refl _ _)))).grown hg5).look
       with_reducible (first
         | (have z8 := B8.out.grown hg5; have z9 := B9.out.grown hg5)
         | (have z8 := B8.out.drew.grown hg5; have z9 := B9.out.drew.grown hg5)
         | (have z8 := ((B8.out.set 0 _).set 1 _).grown hg5; have z9 := (B9.out.set2 _ (by omega) _ _).grown hg5)
         | (have z8 := (((B8.out.set 0 _).set 1 _).drew).grown hg5; have z9 := ((B9.out.set2 _ (by omega) _ _).drew).grown hg5)
         | (have z8 := (((B8.out.drew).set 0 _).set 1 _).grown hg5; have z9 := (B9.out.drew.set2 _ (by omega) _ _).grown hg5))
       have q8 := z8.look
       have q9 := z9.look
       have p8 := z8.open
       have p9 := z9.open
       clear hs5 hg5 hn5 hf5 z8 z9))
  all_goals (
    go_wp2_with fail
    refine bodyPost_ret (v := .tuple #[.agg #[.slice va nb vc, .int .i64 (sz : Int)], .agg #[.slice a5 n5 c5, .int .i64 (Fs : Int), .int .i64 (s : Int)]]) ?_ rfl ?_
    · simp only [results]
      go_simp
    · rw [← HEF.out trivial]
      exact refdo_fin HF5.out HG5.out (by omega) (by omega) (by with_reducible (repeat (first | refine kset ?_ (by first | exact .inl rfl | exact .inr rfl) | refine kdrew ?_ | exact Kept.refl _ _))))
end

section
variable {w : World} {X : Nat → Prop} {nb sz N s : Nat} {F : FaceV} {va : Option Addr} {vc : Nat} {ta : Option Addr} {tn tc : Nat} (h : RefFace w X nb sz N s F va vc ta tn tc) (hX : ∀ k, w.heap.size ≤ k → ¬ X k) (i m n : Int) (b : List UInt8) (xa : Option Addr) (xn xc : Nat) (hx : InB w xa xn xc b)
set_option maxHeartbeats 3200000 in
include h hX hx in
theorem ref_do_appT (nn : Nat) (hnn : n = (nn : Int)) (hlt : nn < xn) (hbig : F.f * s + F.l.length + xn ≤ 1099511627776) :
    Calls Try.prog 65 #[.agg #[.slice va nb vc, .int .i64 (sz : Int)], .agg #[.slice ta tn tc, .int .i64 ((F.f * s : Nat) : Int), .int .i64 (s : Int)], .agg #[.int .i64 1, .int .i64 i, .slice xa xn xc, .int .i64 m], .int .i64 n] w (RefDoPost w X nb sz N s ⟨F.L, F.f, F.l ++ b.take nn⟩) := by
  obtain ⟨w1, hw1, hg1, hs1, b4, b5, b6, b8, b9⟩ := five_boxes w 48 50 86 48 50 [.slice va nb vc, .int .i64 (sz : Int)] [.slice ta tn tc, .int .i64 ((F.f * s : Nat) : Int), .int .i64 (s : Int)] [.int .i64 1, .int .i64 i, .slice xa xn xc, .int .i64 m] [.slice none 0 0, .int .i64 0] [.slice none 0 0, .int .i64 0, .int .i64 0]
  have h1 := (h.more (Y := fun k => X k ∨ k = w.heap.size + 3 ∨ k = w.heap.size + 4) (fun k e => e.imp id (fun e => by omega))).grown hg1
  have hZ : ∀ k, w1.heap.size ≤ k → ¬ (X k ∨ k = w.heap.size + 3 ∨ k = w.heap.size + 4) := fun k hk e => by
    rcases e with e | e
    · exact hX k (by omega) e
    · omega
  have htl := h.tape.len
  have hcp := hx.cap_le
  subst hnn
  have hc : ∀ u, Kept (fun k => k = w.heap.size + 3 ∨ k = w.heap.size + 4) w1 u → Calls Try.prog 75 #[.agg #[.slice ta tn tc, .int .i64 ((F.f * s : Nat) : Int), .int .i64 (s : Int)], .slice xa nn xc] u (DocPost u F.l ta ((⟨F.L, F.f, F.l ++ b.take nn⟩ : FaceV).f * s) s (F.l ++ b.take nn)) := fun u hu => ref_append ta tn tc (F.f * s) s F.l xa nn xc (b.take nn) u ((h1.tape).keptX h1.rx (hu.more (fun k e => .inr e))) (⟨by rw [List.length_take, hx.len_eq]; omega, Nat.le_trans (by omega) hx.cap_le, hx.max, hx.nil, ((RX.new (hx.reads.take nn) hg1 (fun k e => by rcases e with rfl | rfl <;> omega)).kept hu).rb⟩ : InB u xa nn xc (b.take nn)) (by omega)
  have hnt : ∀ u, Kept (fun k => k = w.heap.size + 3 ∨ k = w.heap.size + 4) w1 u → ∀ w5, u.grownBy w5 none → ∀ a n c, SlB w5 a n c (F.l ++ b.take nn) → Near u F.l ta (F.l ++ b.take nn) a → RefFace w5 (fun k => X k ∨ k = w.heap.size + 3 ∨ k = w.heap.size + 4) nb sz N s ⟨F.L, F.f, F.l ++ b.take nn⟩ va vc a n c := fun u hu w5 hg a n c hs hn => (h1.kept (hu.more (fun k e => .inr e))).newTape (fun k hk => hZ k (Nat.le_trans hu.size hk)) hg _ hs hn
  have HOWN := Lib.hid (fun u (hu : Kept (fun k => k = w.heap.size + 3 ∨ k = w.heap.size + 4) w1 u) => Kept.own hg1 hu (fun k e => by rcases e with rfl | rfl <;> omega))
  have HB4 := Lib.hid (fun u (hu : Kept (fun k => k = w.heap.size + 3 ∨ k = w.heap.size + 4) w1 u) => b4.keptX hu (by omega))
  have HC := Lib.hid hc; have HNT := Lib.hid hnt
  have HW := Lib.hid (fun _ : True => hw1)
  have HG := Lib.hid hg1
  obtain ⟨Fs, hFs⟩ : ∃ Fs, F.f * s = Fs := ⟨_, rfl⟩
  rw [hFs] at b5 HW ⊢
  have HFs := Lib.hid (fun _ : True => hFs)
  have B5 := Lib.hid b5; have B8 := Lib.hid b8; have B9 := Lib.hid b9
  have y4 := b4.look
  have y6 := b6.look
  rw [hFs] at HC
  have HEF := HFs
  have y5 := b5.look
  have y8 := b8.look
  have y9 := b9.look
  have o8 := b8.open
  have o9 := b9.open
  have SI := set_idx
  have SF := set_far
  have i0 : (0 : Int) ≤ (nn : Int) := by omega
  have i1 : (nn : Int) ≤ (xc : Int) := by omega
  have i2 : ¬ (nn : Int) < 0 := by omega
  have i3 : (nn : Int) < (xn : Int) := by omega
  clear h hX hx h1 hZ hc hnt hw1 hg1 hs1 hFs b4 b5 b6 b8 b9
  go_enter Try.func65, Try.ntmps65
  go_wp2_with fail
  rw [HW.out trivial]
  go_wp2_with fail
  go_region_law (first
    | (go_simp
       go_at_call 75
       refine (HC.out _ (by with_reducible (repeat (first | refine kset ?_ (by first | exact .inl rfl | exact .inr rfl) | refine kdrew ?_ | exact Kept.refl _ _)))).mono ?_
       rintro r w5 ⟨a5, n5, c5, rfl, hs5, hg5, hn5⟩
       have hf5 := HNT.out _ (by with_reducible (repeat (first | refine kset ?_ (by first | exact .inl rfl | exact .inr rfl) | refine kdrew ?_ | exact Kept.refl _ _))) w5 hg5 a5 n5 c5 hs5 hn5
       have HF5 := Lib.hid hf5
       have HG5 := Lib.hid (grown_trans (HOWN.out _ (by with_reducible (repeat (first | refine kset ?_ (by first | exact .inl rfl | exact .inr rfl) | refine kdrew ?_ | exact Kept.refl _ _)))) hg5)
       have z4 := ((HB4.out _ (by with_reducible (repeat (first | refine kset ?_ (by first | exact .inl rfl | exact .inr rfl) | refine kdrew ?_ | exact Kept.refl _ _)))).grown hg5).look
       with_reducible (first
         | (have z8 := B8.out.grown hg5; have z9 := B9.out.grown hg5)
         | (have z8 := B8.out.drew.grown hg5; have z9 := B9.out.drew.grown hg5)
         | (have z8 := ((B8.out.set 0 _).set 1 _).grown hg5; have z9 := (B9.out.set2 _ (by omega) _ _).grown hg5)
         | (have z8 := (((B8.out.set 0 _).set 1 _).drew).grown hg5; have z9 := ((B9.out.set2 _ (by omega) _ _).drew).grown hg5)
         | (have z8 := (((B8.out.drew).set 0 _).set 1 _).grown hg5; have z9 := (B9.out.drew.set2 _ (by omega) _ _).grown hg5))
       have q8 := z8.look
       have q9 := z9.look
       have p8 := z8.open
       have p9 := z9.open
       clear hs5 hg5 hn5 hf5 z8 z9))
  all_goals (
    go_wp2_with fail
    refine bodyPost_ret (v := .tuple #[.agg #[.slice va nb vc, .int .i64 (sz : Int)], .agg #[.slice a5 n5 c5, .int .i64 (Fs : Int), .int .i64 (s : Int)]]) ?_ rfl ?_
    · simp only [results]
      go_simp
    · rw [← HEF.out trivial]
      exact refdo_fin HF5.out HG5.out (by omega) (by omega) (by with_reducible (repeat (first | refine kset ?_ (by first | exact .inl rfl | exact .inr rfl) | refine kdrew ?_ | exact Kept.refl _ _))))
set_option maxHeartbeats 3200000 in
include h hX in
theorem ref_do_drop (D : Nat) (hD : dropN s F.f F.l.length m = D) (hn : n < 0) (hm : -9223372036854775808 ≤ m) (hbig : F.f * s + F.l.length + xn ≤ 1099511627776) :
    Calls Try.prog 65 #[.agg #[.slice va nb vc, .int .i64 (sz : Int)], .agg #[.slice ta tn tc, .int .i64 ((F.f * s : Nat) : Int), .int .i64 (s : Int)], .agg #[.int .i64 2, .int .i64 i, .slice xa xn xc, .int .i64 m], .int .i64 n] w (RefDoPost w X nb sz N s ⟨F.L, F.f + D, F.l.drop (D * s)⟩) := by
  obtain ⟨w1, hw1, hg1, hs1, b4, b5, b6, b8, b9⟩ := five_boxes w 48 50 86 48 50 [.slice va nb vc, .int .i64 (sz : Int)] [.slice ta tn tc, .int .i64 ((F.f * s : Nat) : Int), .int .i64 (s : Int)] [.int .i64 2, .int .i64 i, .slice xa xn xc, .int .i64 m] [.slice none 0 0, .int .i64 0] [.slice none 0 0, .int .i64 0, .int .i64 0]
  have h1 := (h.more (Y := fun k => X k ∨ k = w.heap.size + 3 ∨ k = w.heap.size + 4) (fun k e => e.imp id (fun e => by omega))).grown hg1
  have hZ : ∀ k, w1.heap.size ≤ k → ¬ (X k ∨ k = w.heap.size + 3 ∨ k = w.heap.size + 4) := fun k hk e => by
    rcases e with e | e
    · exact hX k (by omega) e
    · omega
  have htl := h.tape.len
  have hc : ∀ u, Kept (fun k => k = w.heap.size + 3 ∨ k = w.heap.size + 4) w1 u → Calls Try.prog 76 #[.agg #[.slice ta tn tc, .int .i64 ((F.f * s : Nat) : Int), .int .i64 (s : Int)], .int .i64 m] u (DocPost u F.l ta ((⟨F.L, F.f + D, F.l.drop (D * s)⟩ : FaceV).f * s) s (F.l.drop (D * s))) := fun u hu => (by have e := ref_drop ta tn tc (F.f * s) s F.l m u ((h1.tape).keptX h1.rx (hu.more (fun k e => .inr e))) h.seg (by omega) hm; rw [drop_agree s F.f tn m (by have := h.seg; omega), show dropN s F.f tn m = D by rw [← htl]; exact hD, ← Nat.add_mul] at e; exact e)
  have hnt : ∀ u, Kept (fun k => k = w.heap.size + 3 ∨ k = w.heap.size + 4) w1 u → ∀ w5, u.grownBy w5 none → ∀ a n c, SlB w5 a n c (F.l.drop (D * s)) → Near u F.l ta (F.l.drop (D * s)) a → RefFace w5 (fun k => X k ∨ k = w.heap.size + 3 ∨ k = w.heap.size + 4) nb sz N s ⟨F.L, F.f + D, F.l.drop (D * s)⟩ va vc a n c := fun u hu w5 hg a n c hs hn => (h1.kept (hu.more (fun k e => .inr e))).newTape (fun k hk => hZ k (Nat.le_trans hu.size hk)) hg _ hs hn
  have HOWN := Lib.hid (fun u (hu : Kept (fun k => k = w.heap.size + 3 ∨ k = w.heap.size + 4) w1 u) => Kept.own hg1 hu (fun k e => by rcases e with rfl | rfl <;> omega))
  have HB4 := Lib.hid (fun u (hu : Kept (fun k => k = w.heap.size + 3 ∨ k = w.heap.size + 4) w1 u) => b4.keptX hu (by omega))
  have HC := Lib.hid hc; have HNT := Lib.hid hnt
  obtain ⟨Gs, hGs⟩ : ∃ Gs, (⟨F.L, F.f + D, F.l.drop (D * s)⟩ : FaceV).f * s = Gs := ⟨_, rfl⟩
  rw [hGs] at HC
  have HEF := Lib.hid (fun _ : True => hGs)
  clear hGs
  have HW := Lib.hid (fun _ : True => hw1)
  have HG := Lib.hid hg1
  obtain ⟨Fs, hFs⟩ : ∃ Fs, F.f * s = Fs := ⟨_, rfl⟩
  rw [hFs] at b5 HW ⊢
  have HFs := Lib.hid (fun _ : True => hFs)
  have B5 := Lib.hid b5; have B8 := Lib.hid b8; have B9 := Lib.hid b9
  have y4 := b4.look
  have y6 := b6.look
  rw [hFs] at HC
  have y5 := b5.look
  have y8 := b8.look
  have y9 := b9.look
  have o8 := b8.open
  have o9 := b9.open
  have SI := set_idx
  have SF := set_far
  clear h hX h1 hZ hc hnt hw1 hg1 hs1 hFs b4 b5 b6 b8 b9
  go_enter Try.func65, Try.ntmps65
  go_wp2_with fail
  rw [HW.out trivial]
  go_wp2_with fail
  go_region_law (first
    | (go_simp
       go_at_call 76
       refine (HC.out _ (by with_reducible (repeat (first | refine kset ?_ (by first | exact .inl rfl | exact .inr rfl) | refine kdrew ?_ | exact Kept.refl _ _)))).mono ?_
       rintro r w5 ⟨a5, n5, c5, rfl, hs5, hg5, hn5⟩
       have hf5 := HNT.out _ (by with_reducible (repeat (first | refine kset ?_ (by first | exact .inl rfl | exact .inr rfl) | refine kdrew ?_ | exact Kept.refl _ _))) w5 hg5 a5 n5 c5 hs5 hn5
       have HF5 := Lib.hid hf5
       have HG5 := Lib.hid (grown_trans (HOWN.out _ (by with_reducible (repeat (first | refine kset ?_ (by first | exact .inl rfl | exact .inr rfl) | refine kdrew ?_ | exact Kept.refl _ _)))) hg5)
       have z4 := ((HB4.out _ (by with_reducible (repeat (first | refine kset ?_ (by first | exact .inl rfl | exact .inr rfl) | refine kdrew ?_ | exact Kept.refl _ _)))).grown hg5).look
       with_reducible (first
         | (have z8 := B8.out.grown hg5; have z9 := B9.out.grown hg5)
         | (have z8 := B8.out.drew.grown hg5; have z9 := B9.out.drew.grown hg5)
         | (have z8 := ((B8.out.set 0 _).set 1 _).grown hg5; have z9 := (B9.out.set2 _ (by omega) _ _).grown hg5)
         | (have z8 := (((B8.out.set 0 _).set 1 _).drew).grown hg5; have z9 := ((B9.out.set2 _ (by omega) _ _).drew).grown hg5)
         | (have z8 := (((B8.out.drew).set 0 _).set 1 _).grown hg5; have z9 := (B9.out.drew.set2 _ (by omega) _ _).grown hg5))
       have q8 := z8.look
       have q9 := z9.look
       have p8 := z8.open
       have p9 := z9.open
       clear hs5 hg5 hn5 hf5 z8 z9))
  all_goals (
    go_wp2_with fail
    refine bodyPost_ret (v := .tuple #[.agg #[.slice va nb vc, .int .i64 (sz : Int)], .agg #[.slice a5 n5 c5, .int .i64 (Gs : Int), .int .i64 (s : Int)]]) ?_ rfl ?_
    · simp only [results]
      go_simp
    · rw [← HEF.out trivial]
      exact refdo_fin HF5.out HG5.out (by omega) (by omega) (by with_reducible (repeat (first | refine kset ?_ (by first | exact .inl rfl | exact .inr rfl) | refine kdrew ?_ | exact Kept.refl _ _))))
set_option maxHeartbeats 3200000 in
include h hX in
theorem ref_do_cut (hn : n < 0) (hbig : F.f * s + F.l.length + xn ≤ 1099511627776) :
    Calls Try.prog 65 #[.agg #[.slice va nb vc, .int .i64 (sz : Int)], .agg #[.slice ta tn tc, .int .i64 ((F.f * s : Nat) : Int), .int .i64 (s : Int)], .agg #[.int .i64 3, .int .i64 i, .slice xa xn xc, .int .i64 m], .int .i64 n] w (RefDoPost w X nb sz N s ⟨F.L, F.f, cutT s F.f F.l m⟩) := by
  obtain ⟨w1, hw1, hg1, hs1, b4, b5, b6, b8, b9⟩ := five_boxes w 48 50 86 48 50 [.slice va nb vc, .int .i64 (sz : Int)] [.slice ta tn tc, .int .i64 ((F.f * s : Nat) : Int), .int .i64 (s : Int)] [.int .i64 3, .int .i64 i, .slice xa xn xc, .int .i64 m] [.slice none 0 0, .int .i64 0] [.slice none 0 0, .int .i64 0, .int .i64 0]
  have h1 := (h.more (Y := fun k => X k ∨ k = w.heap.size + 3 ∨ k = w.heap.size + 4) (fun k e => e.imp id (fun e => by omega))).grown hg1
  have hZ : ∀ k, w1.heap.size ≤ k → ¬ (X k ∨ k = w.heap.size + 3 ∨ k = w.heap.size + 4) := fun k hk e => by
    rcases e with e | e
    · exact hX k (by omega) e
    · omega
  have htl := h.tape.len
  have hc : ∀ u, Kept (fun k => k = w.heap.size + 3 ∨ k = w.heap.size + 4) w1 u → Calls Try.prog 77 #[.agg #[.slice ta tn tc, .int .i64 ((F.f * s : Nat) : Int), .int .i64 (s : Int)], .int .i64 m] u (DocPost u F.l ta ((⟨F.L, F.f, cutT s F.f F.l m⟩ : FaceV).f * s) s (cutT s F.f F.l m)) := fun u hu => (by have e := ref_cut ta tn tc (F.f * s) s F.l m u ((h1.tape).keptX h1.rx (hu.more (fun k e => .inr e))) (by omega); rw [show cutG (F.f * s) F.l m = cutT s F.f F.l m from rfl] at e; exact e)
  have hnt : ∀ u, Kept (fun k => k = w.heap.size + 3 ∨ k = w.heap.size + 4) w1 u → ∀ w5, u.grownBy w5 none → ∀ a n c, SlB w5 a n c (cutT s F.f F.l m) → Near u F.l ta (cutT s F.f F.l m) a → RefFace w5 (fun k => X k ∨ k = w.heap.size + 3 ∨ k = w.heap.size + 4) nb sz N s ⟨F.L, F.f, cutT s F.f F.l m⟩ va vc a n c := fun u hu w5 hg a n c hs hn => (h1.kept (hu.more (fun k e => .inr e))).newTape (fun k hk => hZ k (Nat.le_trans hu.size hk)) hg _ hs hn
  have HOWN := Lib.hid (fun u (hu : Kept (fun k => k = w.heap.size + 3 ∨ k = w.heap.size + 4) w1 u) => Kept.own hg1 hu (fun k e => by rcases e with rfl | rfl <;> omega))
  have HB4 := Lib.hid (fun u (hu : Kept (fun k => k = w.heap.size + 3 ∨ k = w.heap.size + 4) w1 u) => b4.keptX hu (by omega))
  have HC := Lib.hid hc; have HNT := Lib.hid hnt
  have HW := Lib.hid (fun _ : True => hw1)
  have HG := Lib.hid hg1
  obtain ⟨Fs, hFs⟩ : ∃ Fs, F.f * s = Fs := ⟨_, rfl⟩
  rw [hFs] at b5 HW ⊢
  have HFs := Lib.hid (fun _ : True => hFs)
  have B5 := Lib.hid b5; have B8 := Lib.hid b8; have B9 := Lib.hid b9
  have y4 := b4.look
  have y6 := b6.look
  rw [hFs] at HC
  have HEF := HFs
  have y5 := b5.look
  have y8 := b8.look
  have y9 := b9.look
  have o8 := b8.open
  have o9 := b9.open
  have SI := set_idx
  have SF := set_far
  clear h hX h1 hZ hc hnt hw1 hg1 hs1 hFs b4 b5 b6 b8 b9
  go_enter Try.func65, Try.ntmps65
  go_wp2_with fail
  rw [HW.out trivial]
  go_wp2_with fail
  go_region_law (first
    | (go_simp
       go_at_call 77
       refine (HC.out _ (by with_reducible (repeat (first | refine kset ?_ (by first | exact .inl rfl | exact .inr rfl) | refine kdrew ?_ | exact Kept.refl _ _)))).mono ?_
       rintro r w5 ⟨a5, n5, c5, rfl, hs5, hg5, hn5⟩
       have hf5 := HNT.out _ (by with_reducible (repeat (first | refine kset ?_ (by first | exact .inl rfl | exact .inr rfl) | refine kdrew ?_ | exact Kept.refl _ _))) w5 hg5 a5 n5 c5 hs5 hn5
       have HF5 := Lib.hid hf5
       have HG5 := Lib.hid (grown_trans (HOWN.out _ (by with_reducible (repeat (first | refine kset ?_ (by first | exact .inl rfl | exact .inr rfl) | refine kdrew ?_ | exact Kept.refl _ _)))) hg5)
       have z4 := ((HB4.out _ (by with_reducible (repeat (first | refine kset ?_ (by first | exact .inl rfl | exact .inr rfl) | refine kdrew ?_ | exact Kept.refl _ _)))).grown hg5).look
       with_reducible (first
         | (have z8 := B8.out.grown hg5; have z9 := B9.out.grown hg5)
         | (have z8 := B8.out.drew.grown hg5; have z9 := B9.out.drew.grown hg5)
         | (have z8 := ((B8.out.set 0 _).set 1 _).grown hg5; have z9 := (B9.out.set2 _ (by omega) _ _).grown hg5)
         | (have z8 := (((B8.out.set 0 _).set 1 _).drew).grown hg5; have z9 := ((B9.out.set2 _ (by omega) _ _).drew).grown hg5)
         | (have z8 := (((B8.out.drew).set 0 _).set 1 _).grown hg5; have z9 := (B9.out.drew.set2 _ (by omega) _ _).grown hg5))
       have q8 := z8.look
       have q9 := z9.look
       have p8 := z8.open
       have p9 := z9.open
       clear hs5 hg5 hn5 hf5 z8 z9))
  all_goals (
    go_wp2_with fail
    refine bodyPost_ret (v := .tuple #[.agg #[.slice va nb vc, .int .i64 (sz : Int)], .agg #[.slice a5 n5 c5, .int .i64 (Fs : Int), .int .i64 (s : Int)]]) ?_ rfl ?_
    · simp only [results]
      go_simp
    · rw [← HEF.out trivial]
      exact refdo_fin HF5.out HG5.out (by omega) (by omega) (by with_reducible (repeat (first | refine kset ?_ (by first | exact .inl rfl | exact .inr rfl) | refine kdrew ?_ | exact Kept.refl _ _))))
set_option maxHeartbeats 3200000 in
include h hX in
theorem ref_do_no2 (hn : ¬ n < 0) :
    Calls Try.prog 65 #[.agg #[.slice va nb vc, .int .i64 (sz : Int)], .agg #[.slice ta tn tc, .int .i64 ((F.f * s : Nat) : Int), .int .i64 (s : Int)], .agg #[.int .i64 2, .int .i64 i, .slice xa xn xc, .int .i64 m], .int .i64 n] w (RefDoPost w X nb sz N s F) := by
  obtain ⟨w1, hw1, hg1, hs1, b4, b5, b6, b8, b9⟩ := five_boxes w 48 50 86 48 50 [.slice va nb vc, .int .i64 (sz : Int)] [.slice ta tn tc, .int .i64 ((F.f * s : Nat) : Int), .int .i64 (s : Int)] [.int .i64 2, .int .i64 i, .slice xa xn xc, .int .i64 m] [.slice none 0 0, .int .i64 0] [.slice none 0 0, .int .i64 0, .int .i64 0]
  have h1 := (h.more (Y := fun k => X k ∨ k = w.heap.size + 3 ∨ k = w.heap.size + 4) (fun k e => e.imp id (fun e => by omega))).grown hg1
  have hZ : ∀ k, w1.heap.size ≤ k → ¬ (X k ∨ k = w.heap.size + 3 ∨ k = w.heap.size + 4) := fun k hk e => by
    rcases e with e | e
    · exact hX k (by omega) e
    · omega
  have HW := Lib.hid (fun _ : True => hw1)
  have HG := Lib.hid hg1
  obtain ⟨Fs, hFs⟩ : ∃ Fs, F.f * s = Fs := ⟨_, rfl⟩
  rw [hFs] at b5 HW ⊢
  have HFs := Lib.hid (fun _ : True => hFs)
  have B5 := Lib.hid b5; have B8 := Lib.hid b8; have B9 := Lib.hid b9
  have y4 := b4.look
  have y6 := b6.look
  have HF5 := Lib.hid h1; have HG5 := Lib.hid hg1
  have y5 := b5.look
  have y8 := b8.look
  have y9 := b9.look
  have o8 := b8.open
  have o9 := b9.open
  have SI := set_idx
  have SF := set_far
  clear h hX h1 hZ hw1 hg1 hs1 hFs b4 b5 b6 b8 b9
  go_enter Try.func65, Try.ntmps65
  go_wp2_with fail
  rw [HW.out trivial]
  go_wp2_with fail
  go_region_law (fail)
  all_goals (
    go_wp2_with fail
    refine bodyPost_ret (v := .tuple #[.agg #[.slice va nb vc, .int .i64 (sz : Int)], .agg #[.slice ta tn tc, .int .i64 (Fs : Int), .int .i64 (s : Int)]]) ?_ rfl ?_
    · simp only [results]
      go_simp
    · rw [← HFs.out trivial]
      exact refdo_fin HF5.out HG5.out (by omega) (by omega) (by with_reducible (repeat (first | refine kset ?_ (by first | exact .inl rfl | exact .inr rfl) | refine kdrew ?_ | exact Kept.refl _ _))))
set_option maxHeartbeats 3200000 in
include h hX in
theorem ref_do_no3 (hn : ¬ n < 0) :
    Calls Try.prog 65 #[.agg #[.slice va nb vc, .int .i64 (sz : Int)], .agg #[.slice ta tn tc, .int .i64 ((F.f * s : Nat) : Int), .int .i64 (s : Int)], .agg #[.int .i64 3, .int .i64 i, .slice xa xn xc, .int .i64 m], .int .i64 n] w (RefDoPost w X nb sz N s F) := by
  obtain ⟨w1, hw1, hg1, hs1, b4, b5, b6, b8, b9⟩ := five_boxes w 48 50 86 48 50 [.slice va nb vc, .int .i64 (sz : Int)] [.slice ta tn tc, .int .i64 ((F.f * s : Nat) : Int), .int .i64 (s : Int)] [.int .i64 3, .int .i64 i, .slice xa xn xc, .int .i64 m] [.slice none 0 0, .int .i64 0] [.slice none 0 0, .int .i64 0, .int .i64 0]
  have h1 := (h.more (Y := fun k => X k ∨ k = w.heap.size + 3 ∨ k = w.heap.size + 4) (fun k e => e.imp id (fun e => by omega))).grown hg1
  have hZ : ∀ k, w1.heap.size ≤ k → ¬ (X k ∨ k = w.heap.size + 3 ∨ k = w.heap.size + 4) := fun k hk e => by
    rcases e with e | e
    · exact hX k (by omega) e
    · omega
  have HW := Lib.hid (fun _ : True => hw1)
  have HG := Lib.hid hg1
  obtain ⟨Fs, hFs⟩ : ∃ Fs, F.f * s = Fs := ⟨_, rfl⟩
  rw [hFs] at b5 HW ⊢
  have HFs := Lib.hid (fun _ : True => hFs)
  have B5 := Lib.hid b5; have B8 := Lib.hid b8; have B9 := Lib.hid b9
  have y4 := b4.look
  have y6 := b6.look
  have HF5 := Lib.hid h1; have HG5 := Lib.hid hg1
  have y5 := b5.look
  have y8 := b8.look
  have y9 := b9.look
  have o8 := b8.open
  have o9 := b9.open
  have SI := set_idx
  have SF := set_far
  clear h hX h1 hZ hw1 hg1 hs1 hFs b4 b5 b6 b8 b9
  go_enter Try.func65, Try.ntmps65
  go_wp2_with fail
  rw [HW.out trivial]
  go_wp2_with fail
  go_region_law (fail)
  all_goals (
    go_wp2_with fail
    refine bodyPost_ret (v := .tuple #[.agg #[.slice va nb vc, .int .i64 (sz : Int)], .agg #[.slice ta tn tc, .int .i64 (Fs : Int), .int .i64 (s : Int)]]) ?_ rfl ?_
    · simp only [results]
      go_simp
    · rw [← HFs.out trivial]
      exact refdo_fin HF5.out HG5.out (by omega) (by omega) (by with_reducible (repeat (first | refine kset ?_ (by first | exact .inl rfl | exact .inr rfl) | refine kdrew ?_ | exact Kept.refl _ _))))
end

end Go.Proofs.Ytkemocbifancfaa
