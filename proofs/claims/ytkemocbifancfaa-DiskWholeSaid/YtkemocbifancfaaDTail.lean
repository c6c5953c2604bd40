/-
  Bytes that come behind all, in whose midst a crash comes.
-/
import Derived.Test.YtkemocbifancfaaDPlayed
import Derived.Deep.DeepCutAuto
namespace Go.Proofs.Ytkemocbifancfaa
open Go.RowKit
set_option maxRecDepth 100000

def TailCut (w : World) (X : DTailV) (s5 s6 s7 s8 : Value) (wx : World) : Prop := ∃ p q, s5 = .pointer (some ⟨p, 0, none⟩) ∧ s6 = .pointer (some ⟨q, 0, none⟩) ∧ s7 = .int .u8 X.keep ∧ s8 = .int .u8 X.tear ∧
  Box wx p 27 [.int .u8 0, .int .i64 0, .int .i64 0, .int .i64 0, .slice X.a X.an X.ac] ∧ Box wx q 27 [.int .u8 0, .int .i64 0, .int .i64 0, .int .i64 0, .slice X.b X.bn X.bc] ∧ w.grownBy wx none
theorem tailCut_of (w : World) (X : DTailV) :
    TailCut w X (.pointer (some ⟨w.heap.size, 0, none⟩)) (.pointer (some ⟨w.heap.size + 1, 0, none⟩)) (.int .u8 X.keep) (.int .u8 X.tear) ((w.alloc (.cells #[.int .u8 0, .int .i64 0, .int .i64 0, .int .i64 0, .slice X.a X.an X.ac] 27)).alloc (.cells #[.int .u8 0, .int .i64 0, .int .i64 0, .int .i64 0, .slice X.b X.bn X.bc] 27)).drew ∧
    TailCut w X (.pointer (some ⟨w.heap.size + 1, 0, none⟩)) (.pointer (some ⟨w.heap.size, 0, none⟩)) (.int .u8 X.keep) (.int .u8 X.tear) ((w.alloc (.cells #[.int .u8 0, .int .i64 0, .int .i64 0, .int .i64 0, .slice X.b X.bn X.bc] 27)).alloc (.cells #[.int .u8 0, .int .i64 0, .int .i64 0, .int .i64 0, .slice X.a X.an X.ac] 27)).drew := by
  refine ⟨⟨_, _, rfl, rfl, rfl, rfl, ?_, ?_, grown_drew (growA _ _ (growA _ _ (World.grownBy.refl _ _)))⟩, ⟨_, _, rfl, rfl, rfl, rfl, ?_, ?_, grown_drew (growA _ _ (growA _ _ (World.grownBy.refl _ _)))⟩⟩
  · exact ((Box.new w _ _ _ rfl).alloc _).drew
  · exact (Box.new _ _ _ _ (by simp)).drew
  · exact (Box.new _ _ _ _ (by simp)).drew
  · exact ((Box.new w _ _ _ rfl).alloc _).drew
def DTailV.actA (X : DTailV) : DActV := ⟨0, 0, 0, 0, X.a, X.an, X.ac, X.al⟩
def DTailV.actB (X : DTailV) : DActV := ⟨0, 0, 0, 0, X.b, X.bn, X.bc, X.bl⟩
theorem bytes_zero (s f : Nat) (l : List UInt8) : bytesF s f l 0 = l := by
  unfold bytesF fromQ
  split
  · rename_i h
    exact (List.eq_nil_of_length_eq_zero (by omega)).symm
  · rw [show (max (0 : Int) ((f * s : Nat) : Int)).toNat - f * s = 0 by omega]
    rfl
theorem strB_size (l : List UInt8) : (strB l).size = l.length := by simp [strB, ByteArray.size]
/-- the two acts in one row -/
theorem tail_acts {w0 w : World} {X : DTailV} (ho : X.ok w0) (hg : w0.grownBy w none) : ∀ i, i < 2 → DActAt (w.alloc (.cells #[.int .u8 0, .int .i64 0, .int .i64 0, .int .i64 0, .slice X.a X.an X.ac, .int .u8 0, .int .i64 0, .int .i64 0, .int .i64 0, .slice X.b X.bn X.bc] 27)) (some ⟨w.heap.size, 0, none⟩) i (if i = 0 then X.actA else X.actB) := by
  have hb := Box.new w 27 [.int .u8 0, .int .i64 0, .int .i64 0, .int .i64 0, .slice X.a X.an X.ac, .int .u8 0, .int .i64 0, .int .i64 0, .int .i64 0, .slice X.b X.bn X.bc] w.heap.size rfl
  have hg2 := grown_trans hg (World.grownBy_alloc w (.cells #[.int .u8 0, .int .i64 0, .int .i64 0, .int .i64 0, .slice X.a X.an X.ac, .int .u8 0, .int .i64 0, .int .i64 0, .int .i64 0, .slice X.b X.bn X.bc] 27) none)
  intro i hi
  match i, hi with
  | 0, _ => exact ⟨_, 0, rfl, hb.cell 0 rfl, hb.cell 1 rfl, hb.cell 2 rfl, hb.cell 3 rfl, hb.cell 4 rfl, ho.a.grown hg2, by simp [DTailV.actA], by simp [DTailV.actA], by simp [DTailV.actA], by simp [DTailV.actA]⟩
  | 1, _ => exact ⟨_, 0, rfl, hb.cell 5 rfl, hb.cell 6 rfl, hb.cell 7 rfl, hb.cell 8 rfl, hb.cell 9 rfl, ho.b.grown hg2, by simp [DTailV.actB], by simp [DTailV.actB], by simp [DTailV.actB], by simp [DTailV.actB]⟩
theorem app_cases (most n m : Nat) (b : List UInt8) (T : List WriteV) : ∃ E : Int, appE most n m = E ∧ (E = 0 ∨ ((E == (0 : Int)) = false ∧ decide (E = 0) = false ∧ ¬ E = 0)) ∧ (E = 0 → n = b.length → appT most b m T = T ++ [⟨1, 0, b, 0⟩]) := by
  refine ⟨_, rfl, ?_, fun h h2 => ?_⟩
  · by_cases h : appE most n m = 0
    · exact .inl h
    · exact .inr ⟨by simpa using h, by simpa using h, h⟩
  · unfold appT
    rw [← h2, if_pos h]
theorem crash0 (nb sz s : Nat) (L : List UInt8) (f : Nat) (l a b : List UInt8) (t : Int) : crashV nb sz s ⟨L, f, l⟩ [⟨1, 0, a, 0⟩, ⟨1, 0, b, 0⟩] 0 t = ⟨L, f, l ++ a.take t.toNat⟩ := by
  show doV nb sz s ⟨L, f, l⟩ ⟨1, 0, a, 0⟩ true t = _
  rw [doV_appT]
theorem crash1 (nb sz s : Nat) (L : List UInt8) (f : Nat) (l a b : List UInt8) (t : Int) : crashV nb sz s ⟨L, f, l⟩ [⟨1, 0, a, 0⟩, ⟨1, 0, b, 0⟩] 1 t = ⟨L, f, l ++ a ++ b.take t.toNat⟩ := by
  show doV nb sz s (doV nb sz s ⟨L, f, l⟩ ⟨1, 0, a, 0⟩ false 0) ⟨1, 0, b, 0⟩ true t = _
  rw [doV_app, doV_appT]
theorem crash2 (nb sz s : Nat) (L : List UInt8) (f : Nat) (l a b : List UInt8) (t : Int) : crashV nb sz s ⟨L, f, l⟩ [⟨1, 0, a, 0⟩, ⟨1, 0, b, 0⟩] 2 t = ⟨L, f, l ++ a ++ b⟩ := by
  show doV nb sz s (doV nb sz s ⟨L, f, l⟩ ⟨1, 0, a, 0⟩ false 0) ⟨1, 0, b, 0⟩ false 0 = _
  rw [doV_app, doV_app]
theorem strB_app (a b : List UInt8) : strB a ++ strB b = strB (a ++ b) := ByteArray.ext (by simp [strB])
theorem strB_take (a : List UInt8) (n : Nat) : (strB a).extract 0 n = strB (a.take n) := ByteArray.ext (by simp [strB, ByteArray.data_extract])
theorem slice_str (s : ByteArray) (n : Nat) (h : n ≤ s.size) (u : World) : (Instr.slice 9 (.string s) none (some (.int .i64 (n : Int))) none).run Try.prog u = .ok (.string (s.extract 0 n)) u := by
  rw [run_slice_string_to_if (h := Try.underlying9), if_pos ⟨by omega, by omega⟩, Int.toNat_natCast]
theorem add_str (a b : List UInt8) (h : a.length + b.length ≤ 1000000) (u : World) : (Op.stringOp .add (strB a) (strB b)).run Try.prog u = .ok (.string (strB (a ++ b))) u := by
  rw [← strB_app]
  unfold Op.stringOp
  simp only [strB_size]
  rw [if_neg (by rw [show IntKind.i64.max = 9223372036854775807 from rfl]; omega)]
  rfl
theorem tail_str (l a b R : List UInt8) (n : Nat) (hn : n ≤ (l ++ a ++ b).length) (e : (l ++ a ++ b).take n = R) (u : World) : (Instr.slice 9 (.string (strB (l ++ a ++ b))) none (some (.int .i64 (n : Int))) none).run Try.prog u = .ok (.string (strB R)) u := by
  rw [slice_str _ _ (by rw [strB_size]; exact hn), strB_take, e]
theorem tail_take0 (l a b : List UInt8) (t an bn mn nn : Nat) (ha : a.length = an) (_ : b.length = bn) (hm : min t an = mn) (hn : l.length + mn = nn) : (l ++ a ++ b).take nn = l ++ a.take t := by
  subst hn hm ha
  rw [List.append_assoc, List.take_append, List.take_of_length_le (by omega), show l.length + min t a.length - l.length = min t a.length by omega, List.take_append_of_le_length (by omega)]
  congr 1
  by_cases h : t ≤ a.length
  · rw [Nat.min_eq_left h]
  · rw [Nat.min_eq_right (by omega), List.take_of_length_le (Nat.le_refl _), List.take_of_length_le (by omega)]
theorem tail_take1 (l a b : List UInt8) (t an bn mn nn : Nat) (ha : a.length = an) (hb : b.length = bn) (hm : min t bn = mn) (hn : l.length + (an + mn) = nn) : (l ++ a ++ b).take nn = l ++ a ++ b.take t := by
  subst hn hm ha hb
  rw [List.take_append, List.take_of_length_le (by rw [List.length_append]; omega), show l.length + (a.length + min t b.length) - (l ++ a).length = min t b.length by rw [List.length_append]; omega]
  congr 1
  by_cases h : t ≤ b.length
  · rw [Nat.min_eq_left h]
  · rw [Nat.min_eq_right (by omega), List.take_of_length_le (Nat.le_refl _), List.take_of_length_le (by omega)]
theorem tail_take2 (l a b : List UInt8) (_ an bn mn nn : Nat) (ha : a.length = an) (hb : b.length = bn) (_ : 0 = mn) (hn : l.length + (an + bn) = nn) : (l ++ a ++ b).take nn = l ++ a ++ b := by
  subst hn ha hb
  rw [List.take_of_length_le (by simp only [List.length_append]; omega)]
theorem tail_v (l x n : Nat) (h : l + x = n) (h1 : l ≤ 40000) (h2 : x ≤ 40000) : wrap64 ((l : Int) + (x : Int)) = (n : Int) := by unfold wrap64; omega
theorem tail_w (l a m n : Nat) (h : l + (a + m) = n) (h1 : l ≤ 40000) (h2 : a ≤ 40000) (h3 : m ≤ 40000) : wrap64 ((l : Int) + ((a : Int) + (m : Int))) = (n : Int) := by unfold wrap64; omega
theorem ll_of {fs n : Nat} (h : fs + n ≤ 12000) : n ≤ 40000 := by omega
theorem mn_of {t a m : Nat} (h : min t a = m) (ha : a ≤ 300) : m ≤ 40000 := by omega
theorem b3_of {a : Nat} (ha : a ≤ 300) : a ≤ 40000 := by omega
theorem mt_of {t a m : Nat} (h : min t a = m) : m = min t ((a : Int)).toNat := by omega
theorem nl0 (l a b : List UInt8) {t an mn nn : Nat} (ha : a.length = an) (hm : min t an = mn) (hn : l.length + mn = nn) : nn ≤ (l ++ a ++ b).length := by simp only [List.length_append]; omega
theorem nl1 (l a b : List UInt8) {t an bn mn nn : Nat} (ha : a.length = an) (hb : b.length = bn) (hm : min t bn = mn) (hn : l.length + (an + mn) = nn) : nn ≤ (l ++ a ++ b).length := by simp only [List.length_append]; omega
theorem nl2 (l a b : List UInt8) {an bn nn : Nat} (ha : a.length = an) (hb : b.length = bn) (hn : l.length + (an + bn) = nn) : nn ≤ (l ++ a ++ b).length := by simp only [List.length_append]; omega
theorem rl0 (l a b : List UInt8) (t : Nat) {fs an bn : Nat} (h : fs + l.length ≤ 12000) (ha : a.length = an) (_ : b.length = bn) (h1 : an ≤ 300) (_ : bn ≤ 300) : fs + (l ++ a.take t).length ≤ 12700 := by simp only [List.length_append, List.length_take]; omega
theorem rl1 (l a b : List UInt8) (t : Nat) {fs an bn : Nat} (h : fs + l.length ≤ 12000) (ha : a.length = an) (hb : b.length = bn) (h1 : an ≤ 300) (h2 : bn ≤ 300) : fs + (l ++ a ++ b.take t).length ≤ 12700 := by simp only [List.length_append, List.length_take]; omega
theorem rl2 (l a b : List UInt8) (_ : Nat) {fs an bn : Nat} (h : fs + l.length ≤ 12000) (ha : a.length = an) (hb : b.length = bn) (h1 : an ≤ 300) (h2 : bn ≤ 300) : fs + (l ++ a ++ b).length ≤ 12700 := by simp only [List.length_append]; omega
theorem ab1 (l a : List UInt8) {fs an : Nat} (h : fs + l.length ≤ 12000) (ha : a.length = an) (h1 : an ≤ 300) : l.length + a.length ≤ 1000000 := by omega
theorem ab2 (l a b : List UInt8) {fs an bn : Nat} (h : fs + l.length ≤ 12000) (ha : a.length = an) (hb : b.length = bn) (h1 : an ≤ 300) (h2 : bn ≤ 300) : (l ++ a).length + b.length ≤ 1000000 := by simp only [List.length_append]; omega
theorem tail_bytes {w : World} {D : DId} {nb sz N s most : Nat} {L : List UInt8} {f : Nat} {R : List UInt8} (h : DiskAt w D nb sz N s most ⟨L, f, R⟩ []) (hb : f * s + R.length ≤ 12700) : Calls Try.prog 12 #[.pointer (some ⟨D.d, 0, none⟩), .int .i64 0] w (TapeBytesPost w R) := by
  have hc := disk_bytes h 0 (Nat.le_trans (show f * s + R.length ≤ 12700 from hb) (by omega)) (by omega)
  rw [show (seenV nb sz s ⟨L, f, R⟩ []).f = f from rfl, show (seenV nb sz s ⟨L, f, R⟩ []).l = R from rfl, bytes_zero] at hc
  exact hc
set_option maxHeartbeats 3200000 in
theorem diskTail_walk (a : Option Addr) (len cap : Nat) (A : Nat → DActV) (X : DTailV) (w : World) (hl : len ≤ maxLen) (hA : ∀ i, i < len → DActAt w a i (A i)) (ho : X.ok w) :
    Calls Try.prog 3 #[.slice a len cap, .agg #[.slice X.a X.an X.ac, .slice X.b X.bn X.bc, .int .u8 X.keep, .int .u8 X.tear]] w (fun r w' => r = .returned (.bool true) ∧ Below w.heap.size w w') := by
  have HF := Lib.hid (fun u (hu : w.grownBy u none) => disk_few u a len cap A hl (fun i hi => (hA i hi).grown hu))
  obtain ⟨nb, sz, s, most, hm, hp⟩ : ∃ nb sz s most : Nat, most ≤ 1048576 ∧ ∀ u, w.grownBy u none → len ≤ 40 → (∀ j, j < len → (A j).len ≤ 300) → Calls Try.prog 10 #[.slice a len cap] u (PlayedPost u nb sz s most len) :=
    ⟨4, 32, 64, 4000, by omega, fun u hu h40 h3 => disk_played u a len cap A h40 (fun i hi => (hA i hi).grown hu) h3⟩
  have HM := Lib.hid hm; have HP := Lib.hid hp
  have HX := Lib.hid ho
  clear hl hA ho hm hp
  go_enter Try.func3, Try.ntmps3
  go_wp2_with fail
  have hbx := Box.new w 25 [.slice X.a X.an X.ac, .slice X.b X.bn X.bc, .int .u8 X.keep, .int .u8 X.tear] w.heap.size rfl
  have hg1 := World.grownBy_alloc w (.cells #[.slice X.a X.an X.ac, .slice X.b X.bn X.bc, .int .u8 X.keep, .int .u8 X.tear] 25) none
  obtain ⟨w1, hw1⟩ : ∃ u, w.alloc (.cells #[.slice X.a X.an X.ac, .slice X.b X.bn X.bc, .int .u8 X.keep, .int .u8 X.tear] 25) = u := ⟨_, rfl⟩
  have hbx : Box w1 w.heap.size 25 [.slice X.a X.an X.ac, .slice X.b X.bn X.bc, .int .u8 X.keep, .int .u8 X.tear] := by rw [← hw1]; exact hbx
  rw [hw1] at hg1 ⊢
  have hz := hbx.lt
  have HG1 := Lib.hid hg1
  generalize w.heap.size = g at *
  have y0 := look_atB hbx
  have y1 := hbx.look
  have y2 := hbx.drew.look
  have hS0 := grown_drew (World.grownBy.refl w1 none)
  have hS1 := World.grownBy.refl w1 none
  clear hg1 hw1
  go_cut [5, 6, 7, 8] (fun s5 s6 s7 s8 wx => TailCut w1 X s5 s6 s7 s8 wx)
  case first =>
    go_region_held_law (fun w' => w1.grownBy w' none)
      (with_reducible (first | assumption | exact grown_drew (by assumption) | exact keepA (by assumption) | exact grown_drew (keepA (by assumption)) | exact grown_drew (keepA (keepA (by assumption))) | exact keepA (keepA (by assumption))))
      (fail)
    all_goals (
      clear y0 y1 y2 hS0 hS1
      go_wp2_with fail
      go_meet
      first | exact (tailCut_of w1 X).1 | exact (tailCut_of w1 X).2)
  case rest =>
  clear y0 y1 y2 hS0 hS1
  obtain ⟨p, q, rfl, rfl, rfl, rfl, hbp, hbq, hg⟩ := hcut
  have HBP := Lib.hid hbp; have HBQ := Lib.hid hbq
  have HG2 := Lib.hid (grown_trans HG1.out hg)
  clear hbp hbq hg hbx hz
  go_wp2_with fail
  refine (HF.out wc HG2.out).mono ?_
  rintro r w3 ⟨f1, rfl, hg3, hf1⟩
  have HG3 := Lib.hid (grown_trans HG2.out hg3)
  have HFF := Lib.hid hf1
  have l1 := (HBP.out.grown hg3).look
  have l2 := (HBQ.out.grown hg3).look
  have HBP3 := Lib.hid (HBP.out.grown hg3); have HBQ3 := Lib.hid (HBQ.out.grown hg3)
  clear hg3 hf1 HBP HBQ HG2
  cases f1 with
  | false =>
    go_wp2_with fail
    refine (disk_works w3).mono ?_
    rintro r w4 ⟨rfl, hg4⟩
    have HG4 := Lib.hid hg4
    clear hg4
    go_wp2_with fail
    go_ret
    exact ⟨rfl, grown_below (grown_trans HG3.out HG4.out)⟩
  | true =>
    have HFT := Lib.hid (HFF.out rfl)
    clear HFF
    go_wp2_with fail
    have hga := World.grownBy_alloc w3 (.cells #[.int .u8 0, .int .i64 0, .int .i64 0, .int .i64 0, .slice X.a X.an X.ac, .int .u8 0, .int .i64 0, .int .i64 0, .int .i64 0, .slice X.b X.bn X.bc] 27) none
    refine (disk_few _ _ 2 2 (fun i => if i = 0 then X.actA else X.actB) (by unfold maxLen; omega) (tail_acts HX.out HG3.out)).mono ?_
    rintro r w4 ⟨f2, rfl, hg4, hf2⟩
    have HG4 := Lib.hid (grown_trans HG3.out (grown_trans hga hg4))
    have HF2 := Lib.hid hf2
    have HBP4 := Lib.hid (HBP3.out.grown (grown_trans hga hg4)); have HBQ4 := Lib.hid (HBQ3.out.grown (grown_trans hga hg4))
    clear hga hg4 hf2 HBP3 HBQ3 l1 l2
    cases f2 with
    | false =>
      go_wp2_with fail
      refine (disk_works w4).mono ?_
      rintro r w5 ⟨rfl, hg5⟩
      have HG5 := Lib.hid hg5
      clear hg5
      go_wp2_with fail
      go_ret
      exact ⟨rfl, grown_below (grown_trans HG4.out HG5.out)⟩
    | true =>
      have HF2T := Lib.hid (HF2.out rfl)
      clear HF2
      go_wp2_with fail
      refine (HP.out w4 HG4.out HFT.out.1 HFT.out.2).mono ?_
      rintro r w5 ⟨d, rfl, D, N, S, T, rfl, hlv, hT, hbg⟩
      have h40 := HFT.out.1
      have HL5 := Lib.hid hlv; have HT5 := Lib.hid hT; have HB5 := Lib.hid hbg; have H40 := Lib.hid h40
      have HLA := Lib.hid (show X.an ≤ 300 ∧ X.bn ≤ 300 from ⟨HF2T.out.2 0 (by omega), HF2T.out.2 1 (by omega)⟩)
      clear hlv hT hbg h40 HFT HF2T HF HP
      go_wp2_with fail
      refine (disk_sync HL5.out.disk (by have := HT5.out; have := H40.out; omega) (by have := HB5.out; have := H40.out; omega)).mono ?_
      rintro r w6 hp
      obtain ⟨rfl, D6, hl, e6⟩ := HL5.out.op hp
      have hse := seenV_end nb sz s HL5.out.disk.fj.hs T S
      have HB6 := Lib.hid (show endV s (seenV nb sz s S T) ≤ 12000 by have := HB5.out; have := H40.out; omega)
      obtain ⟨S6, hS6⟩ : ∃ S6, seenV nb sz s S T = S6 := ⟨_, rfl⟩
      rw [hS6] at hl HB6
      obtain ⟨L, f, l⟩ := S6
      have HL6 := Lib.hid hl; have HE6 := Lib.hid (fun _ : True => e6)
      clear hp hl e6 hS6 hse HB5 HT5 H40
      go_wp2_with fail
      have hc := disk_bytes HL6.out.disk 0 (by have := HB6.out; unfold endV at this; exact Nat.le_trans this (by omega)) (by omega)
      rw [show (seenV nb sz s ⟨L, f, l⟩ []).f = f from rfl, show (seenV nb sz s ⟨L, f, l⟩ []).l = l from rfl, bytes_zero, HE6.out trivial] at hc
      refine hc.mono ?_
      rintro r w7 ⟨v, rfl, ho, hg7⟩
      obtain ⟨va, vn, vc, rfl, hvn⟩ := ho.len
      have hst := string_bytes va vn vc l w7 (RB.of_own ho) hvn
      have HL7 := Lib.hid (HL6.out.later hg7)
      have l1 := (HBP4.out.grown (grown_trans HL6.out.grown hg7)).look
      have l2 := (HBQ4.out.grown (grown_trans HL6.out.grown hg7)).look
      have HXA := Lib.hid (fun u (hu : w.grownBy u none) => HX.out.a.grown hu)
      have HXB := Lib.hid (fun u (hu : w.grownBy u none) => HX.out.b.grown hu)
      have HLE := Lib.hid (fun _ : True => And.intro HX.out.a.len_eq HX.out.b.len_eq)
      have HFL := Lib.hid (show f * s + l.length ≤ 12000 from HB6.out)
      clear hc ho hvn hg7 HL6 HL5 HB6
      go_wp2_with fail
      clear l1 l2
      have hc := disk_append HL7.out.disk X.a X.an X.ac X.al (HXA.out _ (grown_trans HG4.out HL7.out.grown)) (by have := HLA.out.1; omega) (by simp) HM.out (by rw [show (seenV nb sz s ⟨L, f, l⟩ []) = ⟨L, f, l⟩ from rfl]; have := HFL.out; have := HLA.out.1; simp only; omega)
      rw [show (seenV nb sz s ⟨L, f, l⟩ []) = ⟨L, f, l⟩ from rfl, HE6.out trivial] at hc
      obtain ⟨E1, hE1, hEc, hEt⟩ := app_cases most X.al.length l.length X.al []
      rw [show (FaceV.mk L f l).l = l from rfl, hE1] at hc
      have HC := Lib.hid hc
      have HET := Lib.hid hEt
      clear hc hE1 hEt
      rcases hEc with rfl | ⟨e1, e2, e3⟩
      · refine HC.out.mono ?_
        rintro r w8 hp
        obtain ⟨rfl, D8, hl8, e8⟩ := HL7.out.op hp
        rw [HET.out rfl rfl] at hl8
        have HL8 := Lib.hid hl8
        have HE8 := Lib.hid (fun _ : True => e8.trans (HE6.out trivial))
        have l1 := (HBP4.out.grown HL8.out.grown).look
        have l2 := (HBQ4.out.grown HL8.out.grown).look
        clear hp hl8 e8 HC HET HL7 HE6
        go_wp2_with fail
        clear l1 l2
        have hc := disk_append HL8.out.disk X.b X.bn X.bc X.bl (HXB.out _ (grown_trans HG4.out HL8.out.grown)) (by have := HLA.out.2; omega) (by simp) HM.out (by rw [show (seenV nb sz s ⟨L, f, l⟩ ([] ++ [⟨1, 0, X.al, 0⟩])) = ⟨L, f, l ++ X.al⟩ from doV_app nb sz s L f l X.al]; have := HFL.out; have := HLA.out; have := (HLE.out trivial).1; simp only [List.length_append]; omega)
        rw [show (seenV nb sz s ⟨L, f, l⟩ ([] ++ [⟨1, 0, X.al, 0⟩])) = ⟨L, f, l ++ X.al⟩ from doV_app nb sz s L f l X.al, HE8.out trivial] at hc
        obtain ⟨E1, hE1, hEc, hEt⟩ := app_cases most X.bl.length (l ++ X.al).length X.bl ([] ++ [⟨1, 0, X.al, 0⟩])
        rw [show (FaceV.mk L f (l ++ X.al)).l = l ++ X.al from rfl, hE1] at hc
        have HC := Lib.hid hc
        have HET := Lib.hid hEt
        clear hc hE1 hEt
        rcases hEc with rfl | ⟨e1, e2, e3⟩
        · refine HC.out.mono ?_
          rintro r w9 hp
          obtain ⟨rfl, D9, hl9, e9⟩ := HL8.out.op hp
          rw [HET.out rfl rfl] at hl9
          have HL9 := Lib.hid (show Live w4 w9 D9 nb sz N s most ⟨L, f, l⟩ [⟨1, 0, X.al, 0⟩, ⟨1, 0, X.bl, 0⟩] from hl9)
          have HE9 := Lib.hid (fun _ : True => e9.trans (HE8.out trivial))
          have l1 := (HBP4.out.grown HL9.out.grown).look
          have l2 := (HBQ4.out.grown HL9.out.grown).look
          have hq : 0 ≤ X.keep.tmod 3 ∧ X.keep.tmod 3 < 3 := by
            have := HX.out.keep
            rw [Int.tmod_eq_emod_of_nonneg this.1]
            omega
          have ht := HX.out.tear
          obtain ⟨k, hk⟩ : ∃ k, X.keep.tmod 3 = k := ⟨_, rfl⟩
          obtain ⟨t, htt⟩ : ∃ t, X.tear = t := ⟨_, rfl⟩
          rw [hk] at hq
          rw [htt] at ht ⊢
          have q1 : IntKind.u8.wrap k = k := by rw [IntKind.wrap_u8]; omega
          have q2 : IntKind.i64.wrap k = k := by rw [IntKind.wrap_i64]; omega
          have q3 : IntKind.i64.wrap t = t := by rw [IntKind.wrap_i64]; omega
          clear hp hl9 e9 HC HET HL8 HE8 htt
          obtain ⟨tn, rfl⟩ : ∃ tn : Nat, t = (tn : Int) := ⟨t.toNat, by omega⟩
          have HQ := Lib.hid (And.intro q2 q3)
          have HTN := Lib.hid ht
          have HCR := Lib.hid (fun k => disk_crash D9 nb sz N s most ⟨L, f, l⟩ [⟨1, 0, X.al, 0⟩, ⟨1, 0, X.bl, 0⟩] k (tn : Int) w9 HL9.out.disk (by simp) (by have := HFL.out; have := HLA.out; have := HLE.out trivial; simp [endV, totB]; omega))
          rw [HE9.out trivial] at HCR
          have hsz1 := strB_size l
          clear ht
          go_wp2_with fail
          obtain rfl | rfl | rfl : k = 0 ∨ k = 1 ∨ k = 2 := by omega
          · refine (HCR.out 0).mono ?_
            rw [crash0, Int.toNat_natCast]
            rintro r w10 hp
            obtain ⟨rfl, D10, hl10, e10⟩ := HL9.out.op hp
            have HL10 := Lib.hid hl10
            have HE10 := Lib.hid (fun _ : True => e10.trans (HE9.out trivial))
            have l1 := (HBP4.out.grown HL10.out.grown).look
            have l2 := (HBQ4.out.grown HL10.out.grown).look
            clear hp hl10 e10 HCR HL9 HE9
            have HLN := HLE.out trivial
            obtain ⟨mn, hmn⟩ : ∃ mn, min tn X.an = mn := ⟨_, rfl⟩
            have m1 := min_nat tn (X.an : Int) mn (mt_of hmn) (Int.natCast_nonneg _)
            obtain ⟨nn, hnn⟩ : ∃ nn, l.length + mn = nn := ⟨_, rfl⟩
            have hR0 := tail_take0 _ _ _ _ _ _ _ _ HLN.1 HLN.2 hmn hnn
            have HRL := Lib.hid (show f * s + (l ++ X.al.take tn).length ≤ 12700 from rl0 _ _ X.bl tn HFL.out HLN.1 HLN.2 HLA.out.1 HLA.out.2)
            have hnl : nn ≤ (l ++ X.al ++ X.bl).length := nl0 _ _ _ HLN.1 hmn hnn
            have hn11 := HFL.out
            have hn12 := HLA.out
            have v1 : wrap64 ((l.length : Int) + (mn : Int)) = (nn : Int) := tail_v l.length mn nn hnn (ll_of hn11) (mn_of hmn hn12.1)
            have HNN := Lib.hid (fun _ : True => And.intro hnn hmn)
            obtain ⟨R, hRR⟩ : ∃ R, l ++ X.al.take tn = R := ⟨_, rfl⟩
            have hR := hR0.trans hRR
            rw [hRR] at HL10 HRL
            have HA1 := Lib.hid (fun u => add_str l X.al (ab1 _ _ HFL.out HLN.1 HLA.out.1) u)
            have HA2 := Lib.hid (fun u => add_str (l ++ X.al) X.bl (ab2 _ _ _ HFL.out HLN.1 HLN.2 HLA.out.1 HLA.out.2) u)
            obtain ⟨LA, hLA⟩ : ∃ LA, l ++ X.al = LA := ⟨_, rfl⟩
            rw [hLA] at HA1 HA2 hR hnl
            obtain ⟨LB, hLB⟩ : ∃ LB, LA ++ X.bl = LB := ⟨_, rfl⟩
            rw [hLB] at HA2 hR hnl
            have HSL := Lib.hid (And.intro (show nn ≤ (strB LB).size by rw [strB_size]; exact hnl) (show (strB LB).extract 0 nn = strB R by rw [strB_take, hR]))
            clear hR hR0 hnl hLA hLB hn11 hn12 hnn hmn hRR HLN
            go_wp2_with fail
            rw [v1]
            clear v1 l1 l2 m1 hsz1 hst
            have hx0 := HL10.out.grown
            have hXg := grown_trans HG4.out hx0
            have HXg := Lib.hid hXg
            have kA := str_ofB (c := X.ac) (HXA.out _ hXg).reads (HLE.out trivial).1
            have kB := str_ofB (c := X.bc) (HXB.out _ hXg).reads (HLE.out trivial).2
            have kP := look_atB (HBP4.out.grown hx0)
            have kQ := look_atB (HBQ4.out.grown hx0)
            have hs1 := HSL.out.1
            have hs2 := HSL.out.2
            have hs3 : (nn : Int) ≤ ((strB LB).size : Int) := Int.ofNat_le.2 hs1
            have ha1 := HA1.out
            have ha2 := HA2.out
            have hbd := Lib.hid (show f * s + R.length ≤ 12700 from HRL.out)
            have HBY := Lib.hid (fun u (hu : w10.grownBy u none) => tail_bytes (HL10.out.disk.grown hu) hbd.out)
            rw [HE10.out trivial] at HBY
            have HWK := Lib.hid (fun u => disk_works u)
            have hS0 : w10.grownBy w10.drew none := grown_drew1 _
            have hS1 : w10.grownBy w10 none := World.grownBy.refl _ _
            clear hx0 hXg HSL HRL hbd
            go_region_held_law (fun w' => w10.grownBy w' none)
              (with_reducible (first | assumption | exact grown_drew (by assumption)))
              (first
                | (go_at_call_of 12 (Value.pointer (some ⟨D.d, 0, none⟩)); refine (HBY.out _ (by with_reducible assumption)).mono ?_; rintro e w11 ⟨v, rfl, ho, hg11⟩; have hS2 := keepT hg11 (by with_reducible assumption); obtain ⟨va', vn', vc', rfl, hvn'⟩ := ho.len; have kR := string_bytes va' vn' vc' R w11 (RB.of_own ho) hvn')
                | (go_at_call 9; refine (HWK.out _).mono ?_; rintro e w12 ⟨rfl, hg12⟩; have hS3 := keepT hg12 (by with_reducible assumption)))
            have HF3 := Lib.hid (grown_trans HXg.out hS3)
            clear kA kB kP kQ hs1 hs2 hs3 ha1 ha2 hS0 hS1 hS2 hS3 kR ho hg11 hg12 hvn'
            go_wp2_with fail
            go_ret
            exact ⟨rfl, grown_below HF3.out⟩
          · refine (HCR.out 1).mono ?_
            rw [crash1, Int.toNat_natCast]
            rintro r w10 hp
            obtain ⟨rfl, D10, hl10, e10⟩ := HL9.out.op hp
            have HL10 := Lib.hid hl10
            have HE10 := Lib.hid (fun _ : True => e10.trans (HE9.out trivial))
            have l1 := (HBP4.out.grown HL10.out.grown).look
            have l2 := (HBQ4.out.grown HL10.out.grown).look
            clear hp hl10 e10 HCR HL9 HE9
            have HLN := HLE.out trivial
            obtain ⟨mn, hmn⟩ : ∃ mn, min tn X.bn = mn := ⟨_, rfl⟩
            have m1 := min_nat tn (X.bn : Int) mn (mt_of hmn) (Int.natCast_nonneg _)
            obtain ⟨nn, hnn⟩ : ∃ nn, l.length + (X.an + mn) = nn := ⟨_, rfl⟩
            have hR0 := tail_take1 _ _ _ _ _ _ _ _ HLN.1 HLN.2 hmn hnn
            have HRL := Lib.hid (show f * s + (l ++ X.al ++ X.bl.take tn).length ≤ 12700 from rl1 _ _ X.bl tn HFL.out HLN.1 HLN.2 HLA.out.1 HLA.out.2)
            have hnl : nn ≤ (l ++ X.al ++ X.bl).length := nl1 _ _ _ HLN.1 HLN.2 hmn hnn
            have hn11 := HFL.out
            have hn12 := HLA.out
            have v0 : wrap64 ((X.an : Int) + (mn : Int)) = (X.an : Int) + (mn : Int) := tail_v X.an mn (X.an + mn) rfl (b3_of hn12.1) (mn_of hmn hn12.2)
            have v1 : wrap64 ((l.length : Int) + ((X.an : Int) + (mn : Int))) = (nn : Int) := tail_w l.length X.an mn nn hnn (ll_of hn11) (b3_of hn12.1) (mn_of hmn hn12.2)
            have HNN := Lib.hid (fun _ : True => And.intro hnn hmn)
            obtain ⟨R, hRR⟩ : ∃ R, l ++ X.al ++ X.bl.take tn = R := ⟨_, rfl⟩
            have hR := hR0.trans hRR
            rw [hRR] at HL10 HRL
            have HA1 := Lib.hid (fun u => add_str l X.al (ab1 _ _ HFL.out HLN.1 HLA.out.1) u)
            have HA2 := Lib.hid (fun u => add_str (l ++ X.al) X.bl (ab2 _ _ _ HFL.out HLN.1 HLN.2 HLA.out.1 HLA.out.2) u)
            obtain ⟨LA, hLA⟩ : ∃ LA, l ++ X.al = LA := ⟨_, rfl⟩
            rw [hLA] at HA1 HA2 hR hnl
            obtain ⟨LB, hLB⟩ : ∃ LB, LA ++ X.bl = LB := ⟨_, rfl⟩
            rw [hLB] at HA2 hR hnl
            have HSL := Lib.hid (And.intro (show nn ≤ (strB LB).size by rw [strB_size]; exact hnl) (show (strB LB).extract 0 nn = strB R by rw [strB_take, hR]))
            clear hR hR0 hnl hLA hLB hn11 hn12 hnn hmn hRR HLN
            go_wp2_with fail
            rw [v1]
            clear v1 l1 l2 m1 hsz1 hst
            have hx0 := HL10.out.grown
            have hXg := grown_trans HG4.out hx0
            have HXg := Lib.hid hXg
            have kA := str_ofB (c := X.ac) (HXA.out _ hXg).reads (HLE.out trivial).1
            have kB := str_ofB (c := X.bc) (HXB.out _ hXg).reads (HLE.out trivial).2
            have kP := look_atB (HBP4.out.grown hx0)
            have kQ := look_atB (HBQ4.out.grown hx0)
            have hs1 := HSL.out.1
            have hs2 := HSL.out.2
            have hs3 : (nn : Int) ≤ ((strB LB).size : Int) := Int.ofNat_le.2 hs1
            have ha1 := HA1.out
            have ha2 := HA2.out
            have hbd := Lib.hid (show f * s + R.length ≤ 12700 from HRL.out)
            have HBY := Lib.hid (fun u (hu : w10.grownBy u none) => tail_bytes (HL10.out.disk.grown hu) hbd.out)
            rw [HE10.out trivial] at HBY
            have HWK := Lib.hid (fun u => disk_works u)
            have hS0 : w10.grownBy w10.drew none := grown_drew1 _
            have hS1 : w10.grownBy w10 none := World.grownBy.refl _ _
            clear hx0 hXg HSL HRL hbd
            go_region_held_law (fun w' => w10.grownBy w' none)
              (with_reducible (first | assumption | exact grown_drew (by assumption)))
              (first
                | (go_at_call_of 12 (Value.pointer (some ⟨D.d, 0, none⟩)); refine (HBY.out _ (by with_reducible assumption)).mono ?_; rintro e w11 ⟨v, rfl, ho, hg11⟩; have hS2 := keepT hg11 (by with_reducible assumption); obtain ⟨va', vn', vc', rfl, hvn'⟩ := ho.len; have kR := string_bytes va' vn' vc' R w11 (RB.of_own ho) hvn')
                | (go_at_call 9; refine (HWK.out _).mono ?_; rintro e w12 ⟨rfl, hg12⟩; have hS3 := keepT hg12 (by with_reducible assumption)))
            have HF3 := Lib.hid (grown_trans HXg.out hS3)
            clear kA kB kP kQ hs1 hs2 hs3 ha1 ha2 hS0 hS1 hS2 hS3 kR ho hg11 hg12 hvn'
            go_wp2_with fail
            go_ret
            exact ⟨rfl, grown_below HF3.out⟩
          · refine (HCR.out 2).mono ?_
            rw [crash2]
            rintro r w10 hp
            obtain ⟨rfl, D10, hl10, e10⟩ := HL9.out.op hp
            have HL10 := Lib.hid hl10
            have HE10 := Lib.hid (fun _ : True => e10.trans (HE9.out trivial))
            have l1 := (HBP4.out.grown HL10.out.grown).look
            have l2 := (HBQ4.out.grown HL10.out.grown).look
            clear hp hl10 e10 HCR HL9 HE9
            have HLN := HLE.out trivial
            obtain ⟨mn, hmn⟩ : ∃ mn, 0 = mn := ⟨_, rfl⟩
            have m1 := trivial
            obtain ⟨nn, hnn⟩ : ∃ nn, l.length + (X.an + X.bn) = nn := ⟨_, rfl⟩
            have hR0 := tail_take2 _ _ _ 0 _ _ _ _ HLN.1 HLN.2 hmn hnn
            have HRL := Lib.hid (show f * s + (l ++ X.al ++ X.bl).length ≤ 12700 from rl2 _ _ X.bl 0 HFL.out HLN.1 HLN.2 HLA.out.1 HLA.out.2)
            have hnl : nn ≤ (l ++ X.al ++ X.bl).length := nl2 _ _ _ HLN.1 HLN.2 hnn
            have hn11 := HFL.out
            have hn12 := HLA.out
            have v0 : wrap64 ((X.an : Int) + (X.bn : Int)) = (X.an : Int) + (X.bn : Int) := tail_v X.an X.bn (X.an + X.bn) rfl (b3_of hn12.1) (b3_of hn12.2)
            have v1 : wrap64 ((l.length : Int) + ((X.an : Int) + (X.bn : Int))) = (nn : Int) := tail_w l.length X.an X.bn nn hnn (ll_of hn11) (b3_of hn12.1) (b3_of hn12.2)
            have HNN := Lib.hid (fun _ : True => And.intro hnn hmn)
            obtain ⟨R, hRR⟩ : ∃ R, l ++ X.al ++ X.bl = R := ⟨_, rfl⟩
            have hR := hR0.trans hRR
            rw [hRR] at HL10 HRL
            have HA1 := Lib.hid (fun u => add_str l X.al (ab1 _ _ HFL.out HLN.1 HLA.out.1) u)
            have HA2 := Lib.hid (fun u => add_str (l ++ X.al) X.bl (ab2 _ _ _ HFL.out HLN.1 HLN.2 HLA.out.1 HLA.out.2) u)
            obtain ⟨LA, hLA⟩ : ∃ LA, l ++ X.al = LA := ⟨_, rfl⟩
            rw [hLA] at HA1 HA2 hR hnl
            obtain ⟨LB, hLB⟩ : ∃ LB, LA ++ X.bl = LB := ⟨_, rfl⟩
            rw [hLB] at HA2 hR hnl
            have HSL := Lib.hid (And.intro (show nn ≤ (strB LB).size by rw [strB_size]; exact hnl) (show (strB LB).extract 0 nn = strB R by rw [strB_take, hR]))
            clear hR hR0 hnl hLA hLB hn11 hn12 hnn hmn hRR HLN
            go_wp2_with fail
            rw [v1]
            clear v1 l1 l2 m1 hsz1 hst
            have hx0 := HL10.out.grown
            have hXg := grown_trans HG4.out hx0
            have HXg := Lib.hid hXg
            have kA := str_ofB (c := X.ac) (HXA.out _ hXg).reads (HLE.out trivial).1
            have kB := str_ofB (c := X.bc) (HXB.out _ hXg).reads (HLE.out trivial).2
            have kP := look_atB (HBP4.out.grown hx0)
            have kQ := look_atB (HBQ4.out.grown hx0)
            have hs1 := HSL.out.1
            have hs2 := HSL.out.2
            have hs3 : (nn : Int) ≤ ((strB LB).size : Int) := Int.ofNat_le.2 hs1
            have ha1 := HA1.out
            have ha2 := HA2.out
            have hbd := Lib.hid (show f * s + R.length ≤ 12700 from HRL.out)
            have HBY := Lib.hid (fun u (hu : w10.grownBy u none) => tail_bytes (HL10.out.disk.grown hu) hbd.out)
            rw [HE10.out trivial] at HBY
            have HWK := Lib.hid (fun u => disk_works u)
            have hS0 : w10.grownBy w10.drew none := grown_drew1 _
            have hS1 : w10.grownBy w10 none := World.grownBy.refl _ _
            clear hx0 hXg HSL HRL hbd
            go_region_held_law (fun w' => w10.grownBy w' none)
              (with_reducible (first | assumption | exact grown_drew (by assumption)))
              (first
                | (go_at_call_of 12 (Value.pointer (some ⟨D.d, 0, none⟩)); refine (HBY.out _ (by with_reducible assumption)).mono ?_; rintro e w11 ⟨v, rfl, ho, hg11⟩; have hS2 := keepT hg11 (by with_reducible assumption); obtain ⟨va', vn', vc', rfl, hvn'⟩ := ho.len; have kR := string_bytes va' vn' vc' R w11 (RB.of_own ho) hvn')
                | (go_at_call 9; refine (HWK.out _).mono ?_; rintro e w12 ⟨rfl, hg12⟩; have hS3 := keepT hg12 (by with_reducible assumption)))
            have HF3 := Lib.hid (grown_trans HXg.out hS3)
            clear kA kB kP kQ hs1 hs2 hs3 ha1 ha2 hS0 hS1 hS2 hS3 kR ho hg11 hg12 hvn'
            go_wp2_with fail
            go_ret
            exact ⟨rfl, grown_below HF3.out⟩
        · refine HC.out.mono ?_
          rintro r w9 hp
          obtain ⟨rfl, D9, hl9, e9⟩ := HL8.out.op hp
          have HG9 := Lib.hid (grown_trans HG4.out hl9.grown)
          clear hp hl9 e9 HC HET HL8 HE8
          go_wp2_with fail
          refine (disk_works w9).mono ?_
          rintro r w10 ⟨rfl, hg10⟩
          have HG10 := Lib.hid hg10
          clear hg10
          go_wp2_with fail
          go_ret
          exact ⟨rfl, grown_below (grown_trans HG9.out HG10.out)⟩
      · refine HC.out.mono ?_
        rintro r w8 hp
        obtain ⟨rfl, D8, hl8, e8⟩ := HL7.out.op hp
        have HG8 := Lib.hid (grown_trans HG4.out hl8.grown)
        clear hp hl8 e8 HC HET HL7 HE6
        go_wp2_with fail
        refine (disk_works w8).mono ?_
        rintro r w9 ⟨rfl, hg9⟩
        have HG9 := Lib.hid hg9
        clear hg9
        go_wp2_with fail
        go_ret
        exact ⟨rfl, grown_below (grown_trans HG8.out HG9.out)⟩

end Go.Proofs.Ytkemocbifancfaa
