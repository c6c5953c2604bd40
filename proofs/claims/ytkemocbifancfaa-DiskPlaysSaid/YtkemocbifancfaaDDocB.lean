/-
  The document's disk in memory, what is seen of it, and its 'Sync'.
-/
import Derived.Test.YtkemocbifancfaaDDocA
import Derived.Test.YtkemocbifancfaaDCopyD
namespace Go.Proofs.Ytkemocbifancfaa
open Go.RowKit
set_option maxRecDepth 100000

/-- the document's disk -/
structure RefDisk (w : World) (X : Nat → Prop) (nb sz N s : Nat) (S : FaceV) (T : List WriteV) (va : Option Addr) (vc : Nat) (ta : Option Addr) (tn tc : Nat) (qa : Option Addr) (qn qc : Nat) (loc : List Loc) : Prop where
  face : RefFace w X nb sz N s S va vc ta tn tc
  todo : OwnR w 0 86 4 (.slice qa qn qc) (todoCells T loc)
  row : ∀ k, (Value.slice qa qn qc).ownBlock = some k → ¬ X k
  len : T.length = qn
  lens : loc.length = T.length
  locs : ∀ q (h : q < T.length) (h' : q < loc.length), LocAt w X loc[q] T[q]
  kinds : ∀ W ∈ T, 0 ≤ W.k ∧ W.k ≤ 3
  zero : qn = 0 → qa = none ∧ qc = 0
section
variable {w : World} {X : Nat → Prop} {nb sz N s : Nat} {S : FaceV} {T : List WriteV} {va : Option Addr} {vc : Nat} {ta : Option Addr} {tn tc : Nat} {qa : Option Addr} {qn qc : Nat} {loc : List Loc}
theorem RefDisk.kept {w' : World} (h : RefDisk w X nb sz N s S T va vc ta tn tc qa qn qc loc) (hk : Kept X w w') : RefDisk w' X nb sz N s S T va vc ta tn tc qa qn qc loc :=
  ⟨h.face.kept hk, h.todo.keptX hk h.row, h.row, h.len, h.lens, fun q h1 h2 => (h.locs q h1 h2).keptX hk (fun _ e => .inl e), h.kinds, h.zero⟩
theorem RefDisk.grown {w' : World} (h : RefDisk w X nb sz N s S T va vc ta tn tc qa qn qc loc) (hg : w.grownBy w' none) : RefDisk w' X nb sz N s S T va vc ta tn tc qa qn qc loc := h.kept (Kept.of_grown hg)
theorem RefDisk.more {Y : Nat → Prop} (h : RefDisk w X nb sz N s S T va vc ta tn tc qa qn qc loc) (hY : ∀ k, Y k → X k ∨ w.heap.size ≤ k) : RefDisk w Y nb sz N s S T va vc ta tn tc qa qn qc loc :=
  ⟨h.face.more hY, h.todo, fun k e hy => by
    rcases hY k hy with h1 | h1
    · exact h.row k e h1
    · have := (h.todo.lt k e).2; omega, h.len, h.lens, fun q h1 h2 => (h.locs q h1 h2).keptX (Kept.refl _ _) hY, h.kinds, h.zero⟩
/-- a write that is pending, where it lies -/
theorem RefDisk.at (h : RefDisk w X nb sz N s S T va vc ta tn tc qa qn qc loc) (k : Nat) (hk : k < T.length) : ∃ b o xa xn xc, qa = some ⟨b, o, none⟩ ∧ ¬ X b ∧ w.cell? ⟨b, o + k * 4, none⟩ = some (.int .i64 T[k].k) ∧ w.cell? ⟨b, o + k * 4 + 1, none⟩ = some (.int .i64 T[k].i) ∧ w.cell? ⟨b, o + k * 4 + 2, none⟩ = some (.slice xa xn xc) ∧ w.cell? ⟨b, o + k * 4 + 3, none⟩ = some (.int .i64 T[k].n) ∧ LocAt w X (xa, xn, xc) T[k] := by
  have hkL : k < loc.length := by rw [h.lens]; exact hk
  obtain ⟨b, o, rfl, hcells⟩ := h.todo.elems k (by rw [todo_len _ _ h.lens]; exact hk)
  rw [todo_get T loc hk hkL] at hcells
  have hl := h.locs k hk hkL
  generalize loc[k] = x at *
  obtain ⟨xa, xn, xc⟩ := x
  have d0 := hcells 0 (by decide)
  have d1 := hcells 1 (by decide)
  have d2 := hcells 2 (by decide)
  have d3 := hcells 3 (by decide)
  simp only [wCells, Nat.add_zero, List.getElem?_cons_zero, List.getElem?_cons_succ] at d0 d1 d2 d3
  exact ⟨b, o, xa, xn, xc, rfl, h.row b rfl, d0, d1, d2, d3, hl⟩
end
/-- 'do' by one law -/
theorem ref_do {w : World} {X : Nat → Prop} {nb sz N s : Nat} {F : FaceV} {va : Option Addr} {vc : Nat} {ta : Option Addr} {tn tc : Nat} (h : RefFace w X nb sz N s F va vc ta tn tc) (hX : ∀ k, w.heap.size ≤ k → ¬ X k) (W : WriteV) (n : Int) (xa : Option Addr) (xn xc : Nat) (hx : InB w xa xn xc W.b) (hk : 0 ≤ W.k ∧ W.k ≤ 3) (hm : -9223372036854775808 ≤ W.n) (hbig : F.f * s + F.l.length + xn ≤ 1099511627776) :
    Calls Try.prog 65 #[.agg #[.slice va nb vc, .int .i64 (sz : Int)], .agg #[.slice ta tn tc, .int .i64 ((F.f * s : Nat) : Int), .int .i64 (s : Int)], .agg #[.int .i64 W.k, .int .i64 W.i, .slice xa xn xc, .int .i64 W.n], .int .i64 n] w (RefDoPost w X nb sz N s (doV nb sz s F W (decide (0 ≤ n)) n)) := by
  obtain ⟨k, i, b, m⟩ := W
  simp only at hx hk hm hbig ⊢
  have hlen := hx.len_eq
  by_cases hn : n < 0
  · rw [decide_eq_false (by omega)]
    obtain rfl | rfl | rfl | rfl : k = 0 ∨ k = 1 ∨ k = 2 ∨ k = 3 := by omega
    · rw [show doV nb sz s F ⟨0, i, b, m⟩ false n = ⟨(tearV nb sz F.L i b sz).1, F.f, F.l⟩ by simp [doV]]
      exact ref_do_put h hX i m n b xa xn xc hx hn
    · rw [show doV nb sz s F ⟨1, i, b, m⟩ false n = ⟨F.L, F.f, F.l ++ b⟩ by simp [doV, tornB]]
      exact ref_do_app h hX i m n b xa xn xc hx hn hbig
    · rw [show doV nb sz s F ⟨2, i, b, m⟩ false n = ⟨F.L, F.f + dropN s F.f F.l.length m, F.l.drop (dropN s F.f F.l.length m * s)⟩ by simp [doV]]
      exact ref_do_drop h hX i m n xa xn xc _ rfl hn hm hbig
    · rw [show doV nb sz s F ⟨3, i, b, m⟩ false n = ⟨F.L, F.f, cutT s F.f F.l m⟩ by simp [doV]]
      exact ref_do_cut h hX i m n xa xn xc hn hbig
  · rw [decide_eq_true (by omega)]
    obtain rfl | rfl | rfl | rfl : k = 0 ∨ k = 1 ∨ k = 2 ∨ k = 3 := by omega
    · rw [show doV nb sz s F ⟨0, i, b, m⟩ true n = ⟨(tearV nb sz F.L i b n).1, F.f, F.l⟩ by simp [doV]]
      exact ref_do_tear h hX i m n b xa xn xc hx hn
    · by_cases hl : n < (xn : Int)
      · rw [show doV nb sz s F ⟨1, i, b, m⟩ true n = ⟨F.L, F.f, F.l ++ b.take n.toNat⟩ by simp [doV, tornB]]
        exact ref_do_appT h hX i m n b xa xn xc hx n.toNat (by omega) (by omega) hbig
      · rw [show doV nb sz s F ⟨1, i, b, m⟩ true n = ⟨F.L, F.f, F.l ++ b⟩ by simp [doV, tornB, List.take_of_length_le (show b.length ≤ n.toNat by omega)]]
        exact ref_do_appN h hX i m n b xa xn xc hx hn hl hbig
    · rw [show doV nb sz s F ⟨2, i, b, m⟩ true n = F by simp [doV]]
      exact ref_do_no2 h hX i m n xa xn xc hn
    · rw [show doV nb sz s F ⟨3, i, b, m⟩ true n = F by simp [doV]]
      exact ref_do_no3 h hX i m n xa xn xc hn

theorem doV_whole (nb sz s : Nat) (F : FaceV) (W : WriteV) (n : Int) : doV nb sz s F W false n = doV nb sz s F W false 0 := by simp [doV, tornB]
def SeenRel (w1 : World) (X : Nat → Prop) (p4 p5 nb sz N s : Nat) (S : FaceV) (T : List WriteV) (i : Value) (wr : World) : Prop :=
  ∃ (k : Nat) (va : Option Addr) (vc : Nat) (ta : Option Addr) (tn tc : Nat), k ≤ T.length ∧ i = .int .i64 (k : Int) ∧ RefFace wr X nb sz N s (seenV nb sz s S (T.take k)) va vc ta tn tc ∧ Box wr p4 48 [.slice va nb vc, .int .i64 (sz : Int)] ∧ Box wr p5 50 [.slice ta tn tc, .int .i64 (((seenV nb sz s S (T.take k)).f * s : Nat) : Int), .int .i64 (s : Int)] ∧ Kept (fun q => q = p4 ∨ q = p5) w1 wr
/-- what a store of two values leaves, in either order -/
def sv45 (w5 : World) (p4 p5 nb sz Gs s : Nat) (va : Option Addr) (vc : Nat) (ta : Option Addr) (tn tc : Nat) : World :=
  ((((w5.setCell ⟨p4, 0, none⟩ (.slice va nb vc)).setCell ⟨p4, 1, none⟩ (.int .i64 (sz : Int))).setCell ⟨p5, 0, none⟩ (.slice ta tn tc)).setCell ⟨p5, 1, none⟩ (.int .i64 (Gs : Int))).setCell ⟨p5, 2, none⟩ (.int .i64 (s : Int))
def sv54 (w5 : World) (p4 p5 nb sz Gs s : Nat) (va : Option Addr) (vc : Nat) (ta : Option Addr) (tn tc : Nat) : World :=
  ((((w5.setCell ⟨p5, 0, none⟩ (.slice ta tn tc)).setCell ⟨p5, 1, none⟩ (.int .i64 (Gs : Int))).setCell ⟨p5, 2, none⟩ (.int .i64 (s : Int))).setCell ⟨p4, 0, none⟩ (.slice va nb vc)).setCell ⟨p4, 1, none⟩ (.int .i64 (sz : Int))
theorem grow2b (w : World) (g : Nat) (a b : Value) : w.grownBy ((w.setCell ⟨g, 0, none⟩ a).setCell ⟨g, 1, none⟩ b) (some g) := grown_same (grown_setCell _ _ _ _) (grown_setCell _ _ _ _)
section
variable {w5 : World} {p4 p5 : Nat} (hne : p4 ≠ p5) {c0 c1 d0 d1 d2 : Value} (h4 : Box w5 p4 48 [c0, c1]) (h5 : Box w5 p5 50 [d0, d1, d2]) (nb sz Gs s : Nat) (va : Option Addr) (vc : Nat) (ta : Option Addr) (tn tc : Nat)
include hne h4 h5
theorem sv45_box : Box (sv45 w5 p4 p5 nb sz Gs s va vc ta tn tc) p4 48 [.slice va nb vc, .int .i64 (sz : Int)] ∧ Box (sv45 w5 p4 p5 nb sz Gs s va vc ta tn tc) p5 50 [.slice ta tn tc, .int .i64 (Gs : Int), .int .i64 (s : Int)] :=
  ⟨(((h4.set 0 _).set 1 _).kept (grow3 _ p5 _ _ _) (by simpa using Ne.symm hne)), (((((h5.kept (grow2b _ p4 _ _) (by simpa using hne)).set 0 _).set 1 _).set 2 _))⟩
theorem sv54_box : Box (sv54 w5 p4 p5 nb sz Gs s va vc ta tn tc) p4 48 [.slice va nb vc, .int .i64 (sz : Int)] ∧ Box (sv54 w5 p4 p5 nb sz Gs s va vc ta tn tc) p5 50 [.slice ta tn tc, .int .i64 (Gs : Int), .int .i64 (s : Int)] :=
  ⟨((((h4.kept (grow3 _ p5 _ _ _) (by simpa using Ne.symm hne)).set 0 _).set 1 _)), ((((h5.set 0 _).set 1 _).set 2 _).kept (grow2b _ p4 _ _) (by simpa using hne))⟩
end
theorem sv45_kept (w5 : World) (p4 p5 nb sz Gs s : Nat) (va : Option Addr) (vc : Nat) (ta : Option Addr) (tn tc : Nat) : Kept (fun q => q = p4 ∨ q = p5) w5 (sv45 w5 p4 p5 nb sz Gs s va vc ta tn tc) := (Kept.of_row (grow2b _ p4 _ _) (.inl rfl)).trans (Kept.of_row (grow3 _ p5 _ _ _) (.inr rfl))
theorem sv54_kept (w5 : World) (p4 p5 nb sz Gs s : Nat) (va : Option Addr) (vc : Nat) (ta : Option Addr) (tn tc : Nat) : Kept (fun q => q = p4 ∨ q = p5) w5 (sv54 w5 p4 p5 nb sz Gs s va vc ta tn tc) := (Kept.of_row (grow3 _ p5 _ _ _) (.inr rfl)).trans (Kept.of_row (grow2b _ p4 _ _) (.inl rfl))
theorem seen_step {w1 wr w5 w6 : World} {X : Nat → Prop} {p4 p5 nb sz N s k Gs : Nat} {S F' : FaceV} {T : List WriteV} {va : Option Addr} {vc : Nat} {ta : Option Addr} {tn tc : Nat} (hlt : k < T.length) (hp4 : X p4) (hp5 : X p5) (hk : Kept (fun q => q = p4 ∨ q = p5) w1 wr) (hg : wr.grownBy w5 none) (hf : RefFace w5 X nb sz N s F' va vc ta tn tc) (hF : F' = seenV nb sz s S (T.take (k + 1))) (hG : F'.f * s = Gs) (hne : p4 ≠ p5) {c0 c1 d0 d1 d2 : Value} (h4 : Box w5 p4 48 [c0, c1]) (h5 : Box w5 p5 50 [d0, d1, d2])
    (h6 : w6 = sv45 w5 p4 p5 nb sz Gs s va vc ta tn tc ∨ w6 = sv54 w5 p4 p5 nb sz Gs s va vc ta tn tc) : SeenRel w1 X p4 p5 nb sz N s S T (.int .i64 ((k : Int) + 1)) w6 := by
  subst hF
  have hX : ∀ q, q = p4 ∨ q = p5 → X q := fun q e => by rcases e with rfl | rfl <;> assumption
  refine ⟨k + 1, va, vc, ta, tn, tc, hlt, by go_num, ?_⟩
  rw [hG]
  rcases h6 with rfl | rfl
  · have hb := sv45_box hne h4 h5 nb sz Gs s va vc ta tn tc
    have hkk := sv45_kept w5 p4 p5 nb sz Gs s va vc ta tn tc
    exact ⟨hf.kept (hkk.more hX), hb.1, hb.2, (hk.trans (Kept.of_grown hg)).trans hkk⟩
  · have hb := sv54_box hne h4 h5 nb sz Gs s va vc ta tn tc
    have hkk := sv54_kept w5 p4 p5 nb sz Gs s va vc ta tn tc
    exact ⟨hf.kept (hkk.more hX), hb.1, hb.2, (hk.trans (Kept.of_grown hg)).trans hkk⟩
theorem seenV_end_take {nb sz s : Nat} (hs : 1 ≤ s) (S : FaceV) (T : List WriteV) (k : Nat) (hk : k < T.length) : endV s (seenV nb sz s S (T.take k)) + T[k].b.length ≤ endV s S + totB T := by
  have h1 := seenV_end nb sz s hs (T.take k) S
  have h2 := totB_at hk
  omega
set_option maxHeartbeats 3200000 in
theorem ref_seen {w : World} {X : Nat → Prop} {nb sz N s : Nat} {S : FaceV} {T : List WriteV} {va : Option Addr} {vc : Nat} {ta : Option Addr} {tn tc : Nat} {qa : Option Addr} {qn qc : Nat} {loc : List Loc} (h : RefDisk w X nb sz N s S T va vc ta tn tc qa qn qc loc) (hX : ∀ k, w.heap.size ≤ k → ¬ X k) (most : Int) (hT : T.length ≤ 1000) (hbig : endV s S + totB T ≤ 549755813888) :
    Calls Try.prog 46 #[.agg #[.slice va nb vc, .int .i64 (sz : Int), .slice ta tn tc, .int .i64 ((S.f * s : Nat) : Int), .int .i64 (s : Int), .slice qa qn qc, .int .i64 most]] w (RefDoPost w X nb sz N s (seenV nb sz s S T)) := by
  obtain ⟨w1, hw1, hg1, hs1, b1, b2, b3, b4, b5⟩ := five_boxes w 53 48 50 48 50 [.slice va nb vc, .int .i64 (sz : Int), .slice ta tn tc, .int .i64 ((S.f * s : Nat) : Int), .int .i64 (s : Int), .slice qa qn qc, .int .i64 most] [.slice none 0 0, .int .i64 0] [.slice none 0 0, .int .i64 0, .int .i64 0] [.slice va nb vc, .int .i64 (sz : Int)] [.slice ta tn tc, .int .i64 ((S.f * s : Nat) : Int), .int .i64 (s : Int)]
  obtain ⟨Z, hZd⟩ : ∃ Z : Nat → Prop, Z = fun k => X k ∨ (w.heap.size ≤ k ∧ k < w.heap.size + 5) := ⟨_, rfl⟩
  have hZi : ∀ k, Z k ↔ (X k ∨ (w.heap.size ≤ k ∧ k < w.heap.size + 5)) := fun k => by rw [hZd]
  have h1 := (h.more (Y := Z) (fun k e => ((hZi k).1 e).imp id (fun e => e.1))).grown hg1
  have hZ : ∀ k, w1.heap.size ≤ k → ¬ Z k := fun k hk e => by
    rcases (hZi k).1 e with e | e
    · exact hX k (by omega) e
    · omega
  have hs : 1 ≤ s := by have := h.face.seg; omega
  have HX1 := Lib.hid (fun k (e : X k) => (hZi k).2 (.inl e))
  have HZ := Lib.hid hZ
  have HP := Lib.hid (And.intro ((hZi (w.heap.size + 3)).2 (.inr (by omega))) (And.intro ((hZi (w.heap.size + 4)).2 (.inr (by omega))) (And.intro ((hZi (w.heap.size + 1)).2 (.inr (by omega))) ((hZi (w.heap.size + 2)).2 (.inr (by omega))))))
  have HS := Lib.hid hs
  have H1 := Lib.hid h1
  have HW := Lib.hid (fun _ : True => hw1)
  have HG := Lib.hid hg1
  have HB := Lib.hid hbig
  have HLT := Lib.hid (fun _ : True => h.len)
  obtain ⟨Fs, hFs⟩ : ∃ Fs, S.f * s = Fs := ⟨_, rfl⟩
  rw [hFs] at b1 b5 HW ⊢
  have HST := Lib.hid (show SeenRel w1 Z (w.heap.size + 3) (w.heap.size + 4) nb sz N s S T (.int .i64 0) w1 from ⟨0, va, vc, ta, tn, tc, Nat.zero_le _, rfl, h1.face, b4, by rw [show (seenV nb sz s S (T.take 0)) = S from rfl, hFs]; exact b5, Kept.refl _ _⟩)
  have B1 := Lib.hid b1; have B2 := Lib.hid b2; have B3 := Lib.hid b3
  have hqn : qn ≤ 1000 := by rw [← h.len]; exact hT
  clear h hX hT hbig hw1 hg1 hs1 b1 b2 b3 b4 b5 hZd hZi h1 hZ hs hFs
  go_enter Try.func46, Try.ntmps46
  go_wp2_with fail
  rw [HW.out trivial]
  go_wp2_with fail
  go_loopw [6] (fun i wr => SeenRel w1 Z (w.heap.size + 3) (w.heap.size + 4) nb sz N s S T i wr) (fun i _ => qn - (intOf i).toNat)
  case atStart => exact HST.out
  case round =>
    obtain ⟨k, va', vc', ta', tn', tc', hk, rfl, hf, hb4, hb5, hkp⟩ := hrel
    have hd := H1.out.kept (hkp.more (fun q e => by rcases e with rfl | rfl; exact HP.out.1; exact HP.out.2.1))
    have B1r := B1.out.keptX hkp (by omega)
    have B2r := B2.out.keptX hkp (by omega)
    have B3r := B3.out.keptX hkp (by omega)
    have y1 := B1r.look
    have hle : k ≤ qn := by rw [← HLT.out trivial]; exact hk
    have HKP := Lib.hid hkp
    by_cases hlt : k < qn
    · have hkT : k < T.length := by rw [HLT.out trivial]; exact hlt
      obtain ⟨b, o, xa, xn, xc, rfl, hbx, d0, d1, d2, d3, hl⟩ := hd.at k hkT
      have hkind := hd.kinds T[k] (List.getElem_mem hkT)
      have hend := seenV_end_take (nb := nb) (sz := sz) HS.out S T k hkT
      have hxl := hl.inb.len_eq
      unfold endV at hend
      have hbig := HB.out
      unfold endV at hbig
      have hdo := fun u (hu : wr.grownBy u none) => ref_do (hf.grown hu) (fun q hq => HZ.out q (Nat.le_trans (hkp.size) (Nat.le_trans hu.size hq))) T[k] (-1) xa xn xc (hl.inb.grown hu) hkind hl.n (by simp only at hxl; omega)
      have hsn := seenV_take nb sz s S T k hkT
      obtain ⟨F', hF'⟩ : ∃ F', doV nb sz s (seenV nb sz s S (T.take k)) T[k] false 0 = F' := ⟨_, rfl⟩
      rw [show decide (0 ≤ (-1 : Int)) = false from rfl, doV_whole, hF'] at hdo
      rw [hF'] at hsn
      unfold RefDoPost at hdo
      obtain ⟨Gs, hGs⟩ : ∃ Gs, F'.f * s = Gs := ⟨_, rfl⟩
      rw [hGs] at hdo
      generalize T[k] = W at *
      generalize seenV nb sz s S (T.take k) = Fk at *
      obtain ⟨Fsk, hFsk⟩ : ∃ Fsk, Fk.f * s = Fsk := ⟨_, rfl⟩
      rw [hFsk] at hdo hb5
      have HDO := Lib.hid hdo; have HSN := Lib.hid (fun _ : True => And.intro hsn hGs)
      have HB4 := Lib.hid hb4; have HB5 := Lib.hid hb5
      have y4 := hb4.look
      have y5 := hb5.look
      have i0 : (0 : Int) ≤ (k : Int) := by omega
      have i1 : (k : Int) < (qn : Int) := by omega
      have SI := set_idx
      have SF := set_far
      have HKT := Lib.hid hkT
      clear hdo hsn hGs hF' hb4 hb5 hd hl hf hend hxl hbig hkind hbx B1r B2r B3r HST hkp hFsk hkT
      go_wp2_with fail
      go_region_law (first
        | (go_simp
           go_at_call 65
           refine (HDO.out _ (by first | exact World.grownBy.refl _ _ | exact grown_drew1 _)).mono ?_
           rintro r w5 ⟨va2, vc2, ta2, tn2, tc2, rfl, hf5, hg5⟩
           have HF5 := Lib.hid hf5
           have hg6 : wr.grownBy w5 none := (by first | exact hg5 | exact grown_trans (grown_drew1 _) hg5)
           have z4 := HB4.out.grown hg6
           have z5 := HB5.out.grown hg6
           have Z4 := Lib.hid z4; have Z5 := Lib.hid z5
           have q4 := z4.look
           have q5 := z5.look
           have p4 := z4.open
           have p5 := z5.open
           have HG6 := Lib.hid hg6
           clear hf5 hg5 hg6 z4 z5))
      all_goals (
        have HR1 := Lib.hid (fun w6 h6 => seen_step (w6 := w6) HKT.out HP.out.1 HP.out.2.1 HKP.out HG6.out HF5.out ((HSN.out trivial).1.symm) (HSN.out trivial).2 (by omega) Z4.out Z5.out h6)
        clear q4 q5 p4 p5 y4 y5
        go_wp2_with fail
        go_roundw)
      all_goals first
        | exact HR1.out _ (.inl rfl)
        | exact HR1.out _ (.inr rfl)
        | (simp only [intOf]; omega)
    · obtain rfl : k = qn := by omega
      have hkT : T.take k = T := List.take_of_length_le (by rw [HLT.out trivial]; exact Nat.le_refl _)
      rw [hkT] at hf hb5
      obtain ⟨R, hR⟩ : ∃ R, seenV nb sz s S T = R := ⟨_, rfl⟩
      rw [hR] at hf hb5 ⊢
      obtain ⟨Gs, hGs⟩ : ∃ Gs, R.f * s = Gs := ⟨_, rfl⟩
      rw [hGs] at hb5
      have y4 := hb4.look
      have y5 := hb5.look
      have y2 := B2r.look
      have y3 := B3r.look
      have o2 := B2r.open
      have o3 := B3r.open
      have SI := set_idx
      have SF := set_far
      have HF := Lib.hid (hf.more (Y := fun k => X k ∨ k = w.heap.size + 1 ∨ k = w.heap.size + 2) (fun q e => by
        rcases e with e | rfl | rfl
        · exact .inl (HX1.out q e)
        · exact .inl HP.out.2.2.1
        · exact .inl HP.out.2.2.2))
      have HGS := Lib.hid (fun _ : True => hGs)
      have HR := Lib.hid (fun _ : True => hR)
      have HG3 := Lib.hid (Kept.own HG.out hkp (fun q e => by rcases e with rfl | rfl <;> omega))
      clear hf hb4 hb5 hd hkp hkT hR hGs B1r B2r B3r HST
      go_wp2_with fail
      go_region_law (fail)
      all_goals (
        go_wp2_with fail
        refine bodyPost_ret (v := .tuple #[.agg #[.slice va' nb vc', .int .i64 (sz : Int)], .agg #[.slice ta' tn' tc', .int .i64 (Gs : Int), .int .i64 (s : Int)]]) ?_ rfl ?_
        · simp only [results]
          go_simp
        · show RefDoPost w X nb sz N s (seenV nb sz s S T) _ _
          rw [HR.out trivial, ← HGS.out trivial]
          exact refdo_fin HF.out HG3.out (by omega) (by omega) (by with_reducible (repeat (first | refine kset ?_ (by first | exact .inl rfl | exact .inr rfl) | refine kdrew ?_ | exact Kept.refl _ _))))

def RefDPost (w : World) (X : Nat → Prop) (nb sz N s : Nat) (S : FaceV) (T : List WriteV) (most : Int) (r : Ending) (w' : World) : Prop :=
  ∃ va vc ta tn tc qa qn qc loc, r = .returned (.agg #[.slice va nb vc, .int .i64 (sz : Int), .slice ta tn tc, .int .i64 ((S.f * s : Nat) : Int), .int .i64 (s : Int), .slice qa qn qc, .int .i64 most]) ∧ RefDisk w' X nb sz N s S T va vc ta tn tc qa qn qc loc ∧ w.grownBy w' none
theorem RefFace.disk0 {w : World} {X : Nat → Prop} {nb sz N s : Nat} {F : FaceV} {va : Option Addr} {vc : Nat} {ta : Option Addr} {tn tc : Nat} (h : RefFace w X nb sz N s F va vc ta tn tc) : RefDisk w X nb sz N s F [] va vc ta tn tc none 0 0 [] :=
  ⟨h, OwnR.nil _ _ _ _, fun k e => (by cases e), rfl, rfl, fun q h1 _ => absurd h1 (by simp), fun W hW => absurd hW (by simp), fun _ => ⟨rfl, rfl⟩⟩
theorem two_boxes (w : World) (T4 T5 : TypeId) (c4 c5 : List Value) : ∃ w1, (w.alloc (.cells c4.toArray T4)).alloc (.cells c5.toArray T5) = w1 ∧ w.grownBy w1 none ∧ w1.heap.size = w.heap.size + 2 ∧
    Box w1 w.heap.size T4 c4 ∧ Box w1 (w.heap.size + 1) T5 c5 :=
  ⟨_, rfl, growA _ _ (growA _ _ (World.grownBy.refl _ _)), by simp, (Box.new w T4 c4 _ rfl).alloc _, Box.new _ T5 c5 _ (by simp)⟩
/-- the end: the disk is stored -/
theorem refd_fin {w w3 w4 : World} {X : Nat → Prop} {p nb sz N s : Nat} {S : FaceV} {T : List WriteV} {most : Int} {va : Option Addr} {vc : Nat} {ta : Option Addr} {tn tc : Nat} {qa : Option Addr} {qn qc : Nat} {loc : List Loc} (h : RefDisk w3 (fun k => X k ∨ k = p) nb sz N s S T va vc ta tn tc qa qn qc loc) (hg : w.grownBy w3 none) (hp : w.heap.size ≤ p) (hk : Kept (fun k => k = p) w3 w4) :
    RefDPost w X nb sz N s S T most (.returned (.agg #[.slice va nb vc, .int .i64 (sz : Int), .slice ta tn tc, .int .i64 ((S.f * s : Nat) : Int), .int .i64 (s : Int), .slice qa qn qc, .int .i64 most])) w4 :=
  ⟨va, vc, ta, tn, tc, qa, qn, qc, loc, rfl, (h.kept (hk.more (fun k e => .inr e))).more (fun k e => .inl (.inl e)), Kept.own hg hk (fun k e => by rw [e]; exact hp)⟩
theorem refd_finG {w w3 w4 : World} {X : Nat → Prop} {p nb sz N s Gs : Nat} {S : FaceV} {T : List WriteV} {most : Int} {va : Option Addr} {vc : Nat} {ta : Option Addr} {tn tc : Nat} {qa : Option Addr} {qn qc : Nat} {loc : List Loc} (hG : S.f * s = Gs) (h : RefDisk w3 (fun k => X k ∨ k = p) nb sz N s S T va vc ta tn tc qa qn qc loc) (hg : w.grownBy w3 none) (hp : w.heap.size ≤ p) (hk : Kept (fun k => k = p) w3 w4) :
    RefDPost w X nb sz N s S T most (.returned (.agg #[.slice va nb vc, .int .i64 (sz : Int), .slice ta tn tc, .int .i64 (Gs : Int), .int .i64 (s : Int), .slice qa qn qc, .int .i64 most])) w4 := by
  subst hG
  exact refd_fin h hg hp hk
set_option maxHeartbeats 3200000 in
theorem ref_sync {w : World} {X : Nat → Prop} {nb sz N s : Nat} {S : FaceV} {T : List WriteV} {va : Option Addr} {vc : Nat} {ta : Option Addr} {tn tc : Nat} {qa : Option Addr} {qn qc : Nat} {loc : List Loc} (h : RefDisk w X nb sz N s S T va vc ta tn tc qa qn qc loc) (hX : ∀ k, w.heap.size ≤ k → ¬ X k) (most : Int) (hT : T.length ≤ 1000) (hbig : endV s S + totB T ≤ 549755813888) :
    Calls Try.prog 43 #[.agg #[.slice va nb vc, .int .i64 (sz : Int), .slice ta tn tc, .int .i64 ((S.f * s : Nat) : Int), .int .i64 (s : Int), .slice qa qn qc, .int .i64 most]] w (RefDPost w X nb sz N s (seenV nb sz s S T) [] most) := by
  obtain ⟨w1, hw1, hg1, hs1, b1, b2⟩ := two_boxes w 53 53 [.slice va nb vc, .int .i64 (sz : Int), .slice ta tn tc, .int .i64 ((S.f * s : Nat) : Int), .int .i64 (s : Int), .slice qa qn qc, .int .i64 most] [.slice none 0 0, .int .i64 0, .slice none 0 0, .int .i64 0, .int .i64 0, .slice none 0 0, .int .i64 0]
  have h1 := (h.more (Y := fun k => X k ∨ k = w.heap.size + 1) (fun k e => e.imp id (fun e => by omega))).grown hg1
  have hc := ref_seen h1 (fun k hk e => by
    rcases e with e | e
    · exact hX k (by omega) e
    · omega) most hT hbig
  obtain ⟨R, hR⟩ : ∃ R, seenV nb sz s S T = R := ⟨_, rfl⟩
  obtain ⟨Fs, hFs⟩ : ∃ Fs, S.f * s = Fs := ⟨_, rfl⟩
  have HW := Lib.hid (fun _ : True => hw1)
  rw [hFs] at hc HW b1 ⊢
  rw [hR] at hc
  have HRR := Lib.hid (fun _ : True => hR)
  have HC := Lib.hid hc
  have HG := Lib.hid hg1
  have B1 := Lib.hid b1; have B2 := Lib.hid b2
  have y1 := b1.look
  clear h hX hT hbig h1 hc hw1 hg1 hs1 b1 b2 hFs hR
  go_enter Try.func43, Try.ntmps43
  go_wp2_with fail
  rw [HW.out trivial]
  go_wp2_with fail
  refine HC.out.mono ?_
  rintro r w2 ⟨va2, vc2, ta2, tn2, tc2, rfl, hf, hg2⟩
  obtain ⟨Gs, hGs⟩ : ∃ Gs, R.f * s = Gs := ⟨_, rfl⟩
  rw [hGs]
  have HGS := Lib.hid (fun _ : True => hGs)
  have ga := World.grownBy_alloc w2 (.cells #[.slice va2 nb vc2, .int .i64 (sz : Int)] 48) none
  obtain ⟨w3, hw3, hg3, hs3, b3, b4⟩ := two_boxes w2 48 50 [.slice va2 nb vc2, .int .i64 (sz : Int)] [.slice ta2 tn2 tc2, .int .i64 (Gs : Int), .int .i64 (s : Int)]
  have HW3 := Lib.hid (fun _ : True => hw3)
  have HF := Lib.hid (hf.grown hg3).disk0
  have HG3 := Lib.hid (grown_trans HG.out (grown_trans hg2 hg3))
  have y3 := b3.look
  have y4 := b4.look
  have y1 := (B1.out.grown (grown_trans hg2 hg3)).look
  have y2 := (B2.out.grown (grown_trans hg2 hg3)).look
  have o2 := (B2.out.grown (grown_trans hg2 hg3)).open
  have SI := set_idx
  have SF := set_far
  clear hf hg2 hg3 hs3 b3 b4 ga HC hGs HW3
  subst hw3
  go_wp2_with fail
  refine bodyPost_ret (v := .agg #[.slice va2 nb vc2, .int .i64 (sz : Int), .slice ta2 tn2 tc2, .int .i64 (Gs : Int), .int .i64 (s : Int), .slice none 0 0, .int .i64 most]) ?_ rfl ?_
  · simp only [results]
    go_simp
  · show RefDPost w X nb sz N s (seenV nb sz s S T) [] most _ _
    rw [HRR.out trivial]
    exact refd_finG (HGS.out trivial) HF.out HG3.out (by omega) (by with_reducible (repeat (first | refine kset ?_ (by show _ = _; rfl) | refine kdrew ?_ | exact Kept.refl _ _)))

end Go.Proofs.Ytkemocbifancfaa
