/-
  What a configuration says of a key.
-/
import Derived.Test.YtfmcbnoldcfcbaaCRef
namespace Go.Proofs.Ytfmcbnoldcfcbaa
open Go.RowKit
set_option maxRecDepth 100000

def declL (d : DeclP) : List Value := [.int .u8 (d.k.1.toNat : Int), .int .u8 (d.k.2.1.toNat : Int), .int .u8 (d.k.2.2.toNat : Int), .int .i64 d.lo, .int .i64 d.ini, .int .i64 d.hi]
def DeclAt (w : World) (a : Option Addr) (i : Nat) (d : DeclP) : Prop :=
  ∃ b o, a = some ⟨b, o, none⟩ ∧ w.cell? ⟨b, o + i * 6, none⟩ = some (.int .u8 (d.k.1.toNat : Int)) ∧ w.cell? ⟨b, o + i * 6 + 1, none⟩ = some (.int .u8 (d.k.2.1.toNat : Int)) ∧ w.cell? ⟨b, o + i * 6 + 2, none⟩ = some (.int .u8 (d.k.2.2.toNat : Int)) ∧
    w.cell? ⟨b, o + i * 6 + 3, none⟩ = some (.int .i64 d.lo) ∧ w.cell? ⟨b, o + i * 6 + 4, none⟩ = some (.int .i64 d.ini) ∧ w.cell? ⟨b, o + i * 6 + 5, none⟩ = some (.int .i64 d.hi)
def DeclList (w : World) (a : Option Addr) (L : List DeclP) : Prop := ∀ i (h : i < L.length), DeclAt w a i L[i]
theorem DeclAt.grown {w w' : World} {a : Option Addr} {i : Nat} {x : DeclP} (h : DeclAt w a i x) (hg : w.grownBy w' none) : DeclAt w' a i x := by
  obtain ⟨b, o, e, h0, h1, h2, h3, h4, h5⟩ := h
  exact ⟨b, o, e, grown_cell hg h0, grown_cell hg h1, grown_cell hg h2, grown_cell hg h3, grown_cell hg h4, grown_cell hg h5⟩
theorem DeclList.grown {w w' : World} {a : Option Addr} {L : List DeclP} (h : DeclList w a L) (hg : w.grownBy w' none) : DeclList w' a L := fun i hi => (h i hi).grown hg
/-- what is said of a key: the first that names it -/
def declF (L : List DeclP) (k : KeyP) : DeclP × Bool := match L.find? (fun d => decide (d.k = k)) with | some d => (d, true) | none => (⟨(0, 0, 0), 0, 0, 0⟩, false)
theorem declF_hit {L : List DeclP} {k : KeyP} {j : Nat} (hj : j < L.length) (he : L[j].k = k) (hno : ∀ d ∈ L.take j, d.k ≠ k) : declF L k = (L[j], true) := by
  have : L.find? (fun d => decide (d.k = k)) = some L[j] := by
    have h1 : (L.take j).find? (fun d => decide (d.k = k)) = none := List.find?_eq_none.2 (by simpa using hno)
    have h2 : (L.drop j).find? (fun d => decide (d.k = k)) = some L[j] := by rw [List.drop_eq_getElem_cons hj, List.find?_cons_of_pos (by simp [he])]
    have h3 : L.find? (fun d => decide (d.k = k)) = (L.take j ++ L.drop j).find? (fun d => decide (d.k = k)) := by rw [List.take_append_drop]
    rw [h3, List.find?_append, h1, h2]
    rfl
  unfold declF
  rw [this]
theorem declF_none {L : List DeclP} {k : KeyP} (hno : ∀ d ∈ L, d.k ≠ k) : declF L k = (⟨(0, 0, 0), 0, 0, 0⟩, false) := by
  unfold declF
  rw [List.find?_eq_none.2 (by simpa using hno)]
theorem key_ne {x y : KeyP} (h : x ≠ y) : ((x.1.toNat : Int) == (y.1.toNat : Int)) = false ∨ (((x.1.toNat : Int) == (y.1.toNat : Int)) = true ∧ ((x.2.1.toNat : Int) == (y.2.1.toNat : Int)) = false) ∨
    (((x.1.toNat : Int) == (y.1.toNat : Int)) = true ∧ ((x.2.1.toNat : Int) == (y.2.1.toNat : Int)) = true ∧ ((x.2.2.toNat : Int) == (y.2.2.toNat : Int)) = false) := by
  rw [nat_eq, nat_eq, nat_eq]
  by_cases h1 : x.1.toNat = y.1.toNat
  · by_cases h2 : x.2.1.toNat = y.2.1.toNat
    · refine .inr (.inr ⟨decide_eq_true h1, decide_eq_true h2, decide_eq_false fun h3 => h ?_⟩)
      exact Prod.ext (UInt8.toNat_inj.1 h1) (Prod.ext (UInt8.toNat_inj.1 h2) (UInt8.toNat_inj.1 h3))
    · exact .inr (.inl ⟨decide_eq_true h1, decide_eq_false h2⟩)
  · exact .inl (decide_eq_false h1)
theorem take_snoc_all {α : Type} {L : List α} {p : α → Prop} {k : Nat} (hk : k < L.length) (he : p L[k]) (hno : ∀ x ∈ L.take k, p x) : ∀ x ∈ L.take (k + 1), p x := by
  rw [List.take_succ_eq_append_getElem hk]
  intro x h
  rcases List.mem_append.1 h with h | h
  · exact hno x h
  · rw [List.mem_singleton] at h
    rw [h]; exact he
def DeclPost (w : World) (t : DeclP × Bool) (r : Ending) (w' : World) : Prop :=
  r = .returned (.tuple #[.agg #[.int .u8 (t.1.k.1.toNat : Int), .int .u8 (t.1.k.2.1.toNat : Int), .int .u8 (t.1.k.2.2.toNat : Int), .int .i64 t.1.lo, .int .i64 t.1.ini, .int .i64 t.1.hi], .bool t.2]) ∧ w.grownBy w' none
def DeclRel (w : World) (L : List DeclP) (k : KeyP) (n : Nat) (i : Value) (wr : World) : Prop := ∃ j : Nat, j ≤ n ∧ i = .int .i64 j ∧ (∀ d ∈ L.take j, d.k ≠ k) ∧ w.grownBy wr none

theorem grow6 (w : World) (g : Nat) (a b c d e f : Value) : w.grownBy ((((((w.setCell ⟨g, 0, none⟩ a).setCell ⟨g, 1, none⟩ b).setCell ⟨g, 2, none⟩ c).setCell ⟨g, 3, none⟩ d).setCell ⟨g, 4, none⟩ e).setCell ⟨g, 5, none⟩ f) (some g) :=
  grown_same (grown_same (grown_same (grown_same (grown_same (grown_setCell _ _ _ _) (grown_setCell _ _ _ _)) (grown_setCell _ _ _ _)) (grown_setCell _ _ _ _)) (grown_setCell _ _ _ _)) (grown_setCell _ _ _ _)
set_option maxHeartbeats 12800000 in
theorem conf_decl (c : ConfP) (a : Option Addr) (n cp : Nat) (k : KeyP) (w : World) (hL : DeclList w a c.D) (hn : c.D.length = n) (hm : n ≤ maxLen) :
    Calls Try.prog 41 #[.agg #[.int .i64 c.sk, .int .i64 c.wa, .slice a n cp, .int .u8 ((c.p 0 0).toNat : Int), .int .u8 ((c.p 0 1).toNat : Int), .int .u8 ((c.p 0 2).toNat : Int), .int .u8 ((c.p 0 3).toNat : Int), .int .u8 ((c.p 1 0).toNat : Int), .int .u8 ((c.p 1 1).toNat : Int), .int .u8 ((c.p 1 2).toNat : Int), .int .u8 ((c.p 1 3).toNat : Int), .int .u8 ((c.p 2 0).toNat : Int), .int .u8 ((c.p 2 1).toNat : Int), .int .u8 ((c.p 2 2).toNat : Int), .int .u8 ((c.p 2 3).toNat : Int), .int .u8 ((c.p 3 0).toNat : Int), .int .u8 ((c.p 3 1).toNat : Int), .int .u8 ((c.p 3 2).toNat : Int), .int .u8 ((c.p 3 3).toNat : Int), .int .i64 c.sg, .int .i64 c.od, .int .i64 c.rt, .int .i64 c.se, .int .i64 c.ca, .int .i64 c.bl, .int .i64 c.bs], .agg #[.int .u8 (k.1.toNat : Int), .int .u8 (k.2.1.toNat : Int), .int .u8 (k.2.2.toNat : Int)]] w (DeclPost w (declF c.D k)) := by
  have hmx : n ≤ 9223372036854775807 := hm
  obtain ⟨L, hLD⟩ : ∃ L, c.D = L := ⟨_, rfl⟩
  rw [hLD] at hL hn ⊢
  have HL := Lib.hid hL; have HN := Lib.hid hn
  have hg1 := World.grownBy_alloc w (.cells #[.int .i64 c.sk, .int .i64 c.wa, .slice a n cp, .int .u8 ((c.p 0 0).toNat : Int), .int .u8 ((c.p 0 1).toNat : Int), .int .u8 ((c.p 0 2).toNat : Int), .int .u8 ((c.p 0 3).toNat : Int), .int .u8 ((c.p 1 0).toNat : Int), .int .u8 ((c.p 1 1).toNat : Int), .int .u8 ((c.p 1 2).toNat : Int), .int .u8 ((c.p 1 3).toNat : Int), .int .u8 ((c.p 2 0).toNat : Int), .int .u8 ((c.p 2 1).toNat : Int), .int .u8 ((c.p 2 2).toNat : Int), .int .u8 ((c.p 2 3).toNat : Int), .int .u8 ((c.p 3 0).toNat : Int), .int .u8 ((c.p 3 1).toNat : Int), .int .u8 ((c.p 3 2).toNat : Int), .int .u8 ((c.p 3 3).toNat : Int), .int .i64 c.sg, .int .i64 c.od, .int .i64 c.rt, .int .i64 c.se, .int .i64 c.ca, .int .i64 c.bl, .int .i64 c.bs] 49) none
  obtain ⟨w1, hw1⟩ : ∃ u, w.alloc (.cells #[.int .i64 c.sk, .int .i64 c.wa, .slice a n cp, .int .u8 ((c.p 0 0).toNat : Int), .int .u8 ((c.p 0 1).toNat : Int), .int .u8 ((c.p 0 2).toNat : Int), .int .u8 ((c.p 0 3).toNat : Int), .int .u8 ((c.p 1 0).toNat : Int), .int .u8 ((c.p 1 1).toNat : Int), .int .u8 ((c.p 1 2).toNat : Int), .int .u8 ((c.p 1 3).toNat : Int), .int .u8 ((c.p 2 0).toNat : Int), .int .u8 ((c.p 2 1).toNat : Int), .int .u8 ((c.p 2 2).toNat : Int), .int .u8 ((c.p 2 3).toNat : Int), .int .u8 ((c.p 3 0).toNat : Int), .int .u8 ((c.p 3 1).toNat : Int), .int .u8 ((c.p 3 2).toNat : Int), .int .u8 ((c.p 3 3).toNat : Int), .int .i64 c.sg, .int .i64 c.od, .int .i64 c.rt, .int .i64 c.se, .int .i64 c.ca, .int .i64 c.bl, .int .i64 c.bs] 49) = u := ⟨_, rfl⟩
  have hs1 : w1.heap.size = w.heap.size + 1 := by rw [← hw1]; simp
  have HLO := Lib.hid (show w.heap.size ≤ w1.heap.size + 1 by omega)
  rw [hw1] at hg1
  have hbk := (Box.new w1 66 [.int .u8 (k.1.toNat : Int), .int .u8 (k.2.1.toNat : Int), .int .u8 (k.2.2.toNat : Int)] w1.heap.size rfl).alloc (.cells #[.int .u8 0, .int .u8 0, .int .u8 0, .int .i64 0, .int .i64 0, .int .i64 0] 68)
  have hbr := Box.new (w1.alloc (.cells #[.int .u8 (k.1.toNat : Int), .int .u8 (k.2.1.toNat : Int), .int .u8 (k.2.2.toNat : Int)] 66)) 68 [.int .u8 0, .int .u8 0, .int .u8 0, .int .i64 0, .int .i64 0, .int .i64 0] (w1.heap.size + 1) (by simp)
  have hgw := growA _ (.cells #[.int .u8 0, .int .u8 0, .int .u8 0, .int .i64 0, .int .i64 0, .int .i64 0] 68) (growA _ (.cells #[.int .u8 (k.1.toNat : Int), .int .u8 (k.2.1.toNat : Int), .int .u8 (k.2.2.toNat : Int)] 66) hg1)
  have HBK := Lib.hid hbk; have HBR := Lib.hid hbr; have HGW := Lib.hid hgw
  have HWW := Lib.hid hw1
  have XC := (Box.new w 49 [.int .i64 c.sk, .int .i64 c.wa, .slice a n cp, .int .u8 ((c.p 0 0).toNat : Int), .int .u8 ((c.p 0 1).toNat : Int), .int .u8 ((c.p 0 2).toNat : Int), .int .u8 ((c.p 0 3).toNat : Int), .int .u8 ((c.p 1 0).toNat : Int), .int .u8 ((c.p 1 1).toNat : Int), .int .u8 ((c.p 1 2).toNat : Int), .int .u8 ((c.p 1 3).toNat : Int), .int .u8 ((c.p 2 0).toNat : Int), .int .u8 ((c.p 2 1).toNat : Int), .int .u8 ((c.p 2 2).toNat : Int), .int .u8 ((c.p 2 3).toNat : Int), .int .u8 ((c.p 3 0).toNat : Int), .int .u8 ((c.p 3 1).toNat : Int), .int .u8 ((c.p 3 2).toNat : Int), .int .u8 ((c.p 3 3).toNat : Int), .int .i64 c.sg, .int .i64 c.od, .int .i64 c.rt, .int .i64 c.se, .int .i64 c.ca, .int .i64 c.bl, .int .i64 c.bs] w.heap.size rfl)
  rw [hw1] at XC
  have XCL := ((XC.alloc (.cells #[.int .u8 (k.1.toNat : Int), .int .u8 (k.2.1.toNat : Int), .int .u8 (k.2.2.toNat : Int)] 66)).alloc (.cells #[.int .u8 0, .int .u8 0, .int .u8 0, .int .i64 0, .int .i64 0, .int .i64 0] 68)).look
  clear hL hn hm hLD hg1 hbk hbr hgw XC hs1
  go_enter Try.func41, Try.ntmps41
  go_wp2_with fail
  generalize (w1.alloc (.cells #[.int .u8 (k.1.toNat : Int), .int .u8 (k.2.1.toNat : Int), .int .u8 (k.2.2.toNat : Int)] 66)).alloc (.cells #[.int .u8 0, .int .u8 0, .int .u8 0, .int .i64 0, .int .i64 0, .int .i64 0] 68) = w2 at *
  generalize w1.heap.size = gk at *
  have SI := set_idx
  have SF := set_far
  go_loopw [11] (fun i wr => DeclRel w2 L k n i wr) (fun i _ => n - (intOf i).toNat)
  case atStart => exact ⟨0, Nat.zero_le _, rfl, by simp, World.grownBy.refl _ _⟩
  case round =>
    obtain ⟨j, hj, rfl, hno, hg⟩ := hrel
    have HNO := Lib.hid hno; have HG := Lib.hid hg
    have HBR2 := Lib.hid (HBR.out.grown hg); have HBK2 := Lib.hid (HBK.out.grown hg)
    clear hno hg XCL
    by_cases hlt : j < n
    · have hjl : j < L.length := by rw [HN.out]; exact hlt
      obtain ⟨y, he⟩ : ∃ e, L[j]'hjl = e := ⟨_, rfl⟩
      obtain ⟨b, o, rfl, d0, d1, d2, d3, d4, d5⟩ := (HL.out j hjl).grown (grown_trans HGW.out HG.out)
      rw [he] at d0 d1 d2 d3 d4 d5
      have HE := Lib.hid he
      have i0 : (0 : Int) ≤ (j : Int) := by omega
      have i1 : (j : Int) < (n : Int) := by omega
      have hbx := Box.new wr 68 [.int .u8 (y.k.1.toNat : Int), .int .u8 (y.k.2.1.toNat : Int), .int .u8 (y.k.2.2.toNat : Int), .int .i64 y.lo, .int .i64 y.ini, .int .i64 y.hi] wr.heap.size rfl
      have XY := hbx.look
      have XK := (HBK2.out.alloc (.cells #[.int .u8 (y.k.1.toNat : Int), .int .u8 (y.k.2.1.toNat : Int), .int .u8 (y.k.2.2.toNat : Int), .int .i64 y.lo, .int .i64 y.ini, .int .i64 y.hi] 68)).look
      have hbr := HBR2.out.alloc (.cells #[.int .u8 (y.k.1.toNat : Int), .int .u8 (y.k.2.1.toNat : Int), .int .u8 (y.k.2.2.toNat : Int), .int .i64 y.lo, .int .i64 y.ini, .int .i64 y.hi] 68)
      have XR := hbr.look
      have XO := hbr.open
      have HGA := Lib.hid (grown_trans HGW.out (grown_trans HG.out (World.grownBy_alloc wr (.cells #[.int .u8 (y.k.1.toNat : Int), .int .u8 (y.k.2.1.toNat : Int), .int .u8 (y.k.2.2.toNat : Int), .int .i64 y.lo, .int .i64 y.ini, .int .i64 y.hi] 68) none)))
      clear he hbx hbr
      by_cases hk : y.k = k
      · have HF := Lib.hid (declF_hit hjl (by rw [HE.out]; exact hk) HNO.out)
        have q0 : ((y.k.1.toNat : Int) == (k.1.toNat : Int)) = true := by rw [hk]; simp
        have q1 : ((y.k.2.1.toNat : Int) == (k.2.1.toNat : Int)) = true := by rw [hk]; simp
        have q2 : ((y.k.2.2.toNat : Int) == (k.2.2.toNat : Int)) = true := by rw [hk]; simp
        subst hk
        clear q0 q1 q2
        go_wp2_with fail
        refine bodyPost_ret (v := .tuple #[.agg #[.int .u8 (y.k.1.toNat : Int), .int .u8 (y.k.2.1.toNat : Int), .int .u8 (y.k.2.2.toNat : Int), .int .i64 y.lo, .int .i64 y.ini, .int .i64 y.hi], .bool true]) ?_ rfl ?_
        · simp only [results]
          go_simp
        · rw [HF.out, HE.out]
          have hs6 := fun W => grow6 W (gk + 1) (.int .u8 (y.k.1.toNat : Int)) (.int .u8 (y.k.2.1.toNat : Int)) (.int .u8 (y.k.2.2.toNat : Int)) (.int .i64 y.lo) (.int .i64 y.ini) (.int .i64 y.hi)
          exact ⟨rfl, grown_new HGA.out HLO.out (hs6 _)⟩
      · have HK := Lib.hid hk
        have hf := key_ne hk
        clear hk
        rcases hf with hf | ⟨hf, hf2⟩ | ⟨hf, hf2, hf3⟩
        all_goals (
          go_wp2_with fail
          go_roundw
          all_goals first
            | (exact ⟨j + 1, by omega, by go_num, take_snoc_all (p := fun d => d.k ≠ k) hjl (by rw [HE.out]; exact HK.out) HNO.out, grown_trans HG.out (World.grownBy_alloc _ _ _)⟩)
            | (simp [intOf]; omega))
    · obtain rfl : j = n := by omega
      have hno := HNO.out
      rw [List.take_of_length_le (by rw [HN.out]; exact Nat.le_refl _)] at hno
      have HF := Lib.hid (declF_none hno)
      have XR := HBR2.out.look
      have XO := HBR2.out.open
      clear hno
      go_wp2_with fail
      refine bodyPost_ret (v := .tuple #[.agg #[.int .u8 0, .int .u8 0, .int .u8 0, .int .i64 0, .int .i64 0, .int .i64 0], .bool false]) ?_ rfl ?_
      · simp only [results]
        go_simp
      · rw [HF.out]
        have hs6 := fun W => grow6 W (gk + 1) (.int .u8 0) (.int .u8 0) (.int .u8 0) (.int .i64 0) (.int .i64 0) (.int .i64 0)
        exact ⟨rfl, grown_new (grown_trans HGW.out HG.out) HLO.out (hs6 _)⟩

end Go.Proofs.Ytfmcbnoldcfcbaa
