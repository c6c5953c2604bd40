/-
  The configuration that small numbers make.
-/
import Derived.Test.YtomnhgcjdnhijaaCSmallP
import Derived.Test.YtomnhgcjdnhijaaCRPlain
import Derived.Test.YtomnhgcjdnhijaaCSame
import Derived.Deep.DeepCutAuto
namespace Go.Proofs.Ytomnhgcjdnhijaa
open Go.RowKit
set_option maxRecDepth 100000

/-- a configuration's box under way -/
def GC (s v : Nat) (a : Option Addr) (n k : Nat) (p : Nat → Nat → UInt8) (sg od rt se ca bl bs : Int) : List Value := [.int .i64 (s : Int), .int .i64 (v : Int), .slice a n k, .int .u8 ((p 0 0).toNat : Int), .int .u8 ((p 0 1).toNat : Int), .int .u8 ((p 0 2).toNat : Int), .int .u8 ((p 0 3).toNat : Int), .int .u8 ((p 1 0).toNat : Int), .int .u8 ((p 1 1).toNat : Int), .int .u8 ((p 1 2).toNat : Int), .int .u8 ((p 1 3).toNat : Int), .int .u8 ((p 2 0).toNat : Int), .int .u8 ((p 2 1).toNat : Int), .int .u8 ((p 2 2).toNat : Int), .int .u8 ((p 2 3).toNat : Int), .int .u8 ((p 3 0).toNat : Int), .int .u8 ((p 3 1).toNat : Int), .int .u8 ((p 3 2).toNat : Int), .int .u8 ((p 3 3).toNat : Int), .int .i64 sg, .int .i64 od, .int .i64 rt, .int .i64 se, .int .i64 ca, .int .i64 bl, .int .i64 bs]
theorem GC.p_set (s v : Nat) (a : Option Addr) (n k : Nat) (p : Nat → Nat → UInt8) (sg od rt se ca bl bs : Int) {i j : Nat} (hi : i < 4) (hj : j < 4) (x : UInt8) :
    (GC s v a n k p sg od rt se ca bl bs).set (3 + i * 4 + j) (.int .u8 (x.toNat : Int)) = GC s v a n k (fun i' j' => if i' = i ∧ j' = j then x else p i' j') sg od rt se ca bl bs := by
  have h1 : i = 0 ∨ i = 1 ∨ i = 2 ∨ i = 3 := by omega
  have h2 : j = 0 ∨ j = 1 ∨ j = 2 ∨ j = 3 := by omega
  rcases h1 with rfl | rfl | rfl | rfl <;> rcases h2 with rfl | rfl | rfl | rfl <;> rfl
theorem GC.p_get (s v : Nat) (a : Option Addr) (n k : Nat) (p : Nat → Nat → UInt8) (sg od rt se ca bl bs : Int) {i j : Nat} (hi : i < 4) (hj : j < 4) :
    (GC s v a n k p sg od rt se ca bl bs)[3 + i * 4 + j]? = some (.int .u8 ((p i j).toNat : Int)) := by
  have h1 : i = 0 ∨ i = 1 ∨ i = 2 ∨ i = 3 := by omega
  have h2 : j = 0 ∨ j = 1 ∨ j = 2 ∨ j = 3 := by omega
  rcases h1 with rfl | rfl | rfl | rfl <;> rcases h2 with rfl | rfl | rfl | rfl <;> rfl
theorem GC.len (s v : Nat) (a : Option Addr) (n k : Nat) (p : Nat → Nat → UInt8) (sg od rt se ca bl bs : Int) : (GC s v a n k p sg od rt se ca bl bs).length = 26 := rfl
theorem GC.one (s v : Nat) (a : Option Addr) (n k : Nat) (p : Nat → Nat → UInt8) (sg od rt se ca bl bs : Int) : (GC s v a n k p sg od rt se ca bl bs).all (·.oneCell') = true := rfl
theorem turnF_step (S v t s m : Nat) : (fun i j => if i = s ∧ j = m then UInt8.ofNat ((m + s + t) % v) else turnF S v t s m i j) = turnF S v t s (m + 1) := by
  funext i j
  unfold turnF
  by_cases h : i = s ∧ j = m
  · obtain ⟨rfl, rfl⟩ := h
    rw [if_pos ⟨rfl, rfl⟩, if_pos (by omega)]
  · rw [if_neg h]
    exact ite_congr (propext (by omega)) (fun _ => rfl) (fun _ => rfl)
theorem turnF_row (S v t s : Nat) : turnF S v t s v = turnF S v t (s + 1) 0 := by
  funext i j
  unfold turnF
  exact ite_congr (propext (by omega)) (fun _ => rfl) (fun _ => rfl)
theorem turnF_zero (S v t : Nat) : turnF S v t 0 0 = prioF S v 0 := by
  funext i j
  unfold turnF
  rw [if_neg (by omega)]
def CB (w wr : World) (P Z cs : List Value) (B g3 gr n k : Nat) (Ls : List (List Value)) : Prop :=
  Box wr w.heap.size 57 P ∧ Box wr (w.heap.size + 1) 62 Z ∧ Box wr g3 62 cs ∧ OwnR wr B 98 6 (.slice (some ⟨gr, 0, none⟩) n k) Ls ∧ w.grownBy wr none
theorem CB.grown {w wr w' : World} {P Z cs : List Value} {B g3 gr n k : Nat} {Ls : List (List Value)} (h : CB w wr P Z cs B g3 gr n k Ls) (hg : wr.grownBy w' none) : CB w w' P Z cs B g3 gr n k Ls :=
  ⟨h.1.grown hg, h.2.1.grown hg, h.2.2.1.grown hg, h.2.2.2.1.grown hg, grown_trans h.2.2.2.2 hg⟩
theorem CB.set3 {w wr : World} {P Z cs : List Value} {B g3 gr n k : Nat} {Ls : List (List Value)} (h : CB w wr P Z cs B g3 gr n k Ls) (hg : w.heap.size + 2 ≤ g3) (hne : gr ≠ g3) (i : Nat) (u : Value) {cs' : List Value} (he : cs.set i u = cs') :
    CB w (wr.setCell ⟨g3, i, none⟩ u) P Z cs' B g3 gr n k Ls :=
  ⟨h.1.kept (grown_setCell wr g3 i u) (by simp; omega), h.2.1.kept (grown_setCell wr g3 i u) (by simp; omega), he ▸ h.2.2.1.set i u, h.2.2.2.1.kept (grown_setCell wr g3 i u) (.inr (by simpa [Value.ownBlock] using hne)), grown_new h.2.2.2.2 (by omega) (grown_setCell wr g3 i u)⟩
theorem CB.low {w wr : World} {P Z cs : List Value} {B g3 gr n k : Nat} {Ls : List (List Value)} (h : CB w wr P Z cs B g3 gr n k Ls) (hB : w.heap.size + 2 ≤ B) (hne : gr ≠ g3) {j : Nat} (hj : j < Ls.length) (hn : Ls.length = n) (u : Value) :
    CB w (wr.setCell ⟨gr, j * 6 + 3, none⟩ u) P Z cs B g3 gr n k (Ls.set j ((Ls[j]).set 3 u)) := by
  have hlt := (h.2.2.2.1.lt gr rfl).1
  have hs := World.ownsRow.stored (show wr.ownsRow B 98 6 (.slice (some ⟨gr, 0, none⟩) n k) n Ls.flatten by have := h.2.2.2.1.2; rw [hn] at this; exact this) (j * 6 + 3) u
  refine ⟨h.1.kept hs.2 (by simp; omega), h.2.1.kept hs.2 (by simp; omega), h.2.2.1.kept hs.2 (by simpa using hne), ⟨fun c hc => ?_, ?_⟩, grown_new h.2.2.2.2 (by omega) hs.2⟩
  · rcases List.mem_or_eq_of_mem_set hc with hc | rfl
    · exact h.2.2.2.1.1 c hc
    · rw [List.length_set]; exact h.2.2.2.1.1 _ (List.getElem_mem hj)
  · rw [List.length_set, hn, ← flatten_set Ls h.2.2.2.1.1 j hj 3 (by decide) u]
    exact hs.1
theorem CB.look {w wr : World} {P Z cs : List Value} {B g3 gr n k : Nat} {Ls : List (List Value)} (h : CB w wr P Z cs B g3 gr n k Ls) {j : Nat} (hj : j < Ls.length) : ∀ i, i < 6 → wr.cell? ⟨gr, j * 6 + i, none⟩ = (Ls[j])[i]? := by
  obtain ⟨b, o, e, hc⟩ := h.2.2.2.1.elems j hj
  cases e
  intro i hi
  have := hc i hi
  rw [Nat.zero_add] at this
  exact this
theorem CB.free {w wr : World} {P Z cs : List Value} {B g3 gr n k : Nat} {Ls : List (List Value)} (h : CB w wr P Z cs B g3 gr n k Ls) (hn : Ls.length = n) (i : Nat) : wr.frozen? ⟨gr, i, none⟩ = false :=
  World.ownsRow.frozenAt (show wr.ownsRow B 98 6 (.slice (some ⟨gr, 0, none⟩) n k) n Ls.flatten by have := h.2.2.2.1.2; rw [hn] at this; exact this) i
def smallQ (n0 n1 n2 n3 n4 n5 n6 n7 n8 n9 n10 n11 : Nat) : SmallQ := ⟨1 + n0 % 3, 1 + n1 % 3, n2, ((max n3 n2 : Nat) : Int), ((n4 % 4 : Nat) : Int), n5, 1 + n6 % 8, 1 + n7 % 32, n8 % 5, 64 + n9, 64 + 2 * n11, 64 + n9 + 1 + n10⟩
theorem smallQ_ok (n0 n1 n2 n3 n4 n5 n6 n7 n8 n9 n10 n11 : Nat) (h9 : n9 < 256) (h10 : n10 < 65536) (h11 : n11 < 256) : (smallQ n0 n1 n2 n3 n4 n5 n6 n7 n8 n9 n10 n11).ok := by
  unfold SmallQ.ok smallQ
  simp only
  omega
theorem clamp4_small (s : Nat) (h1 : 1 ≤ s) (h4 : s ≤ 4) : clamp4 (s : Int) = s := by unfold clamp4; split <;> (try split) <;> omega
/-- what the document's Plain hands on, as Config calls it -/
theorem plain_small (s v n2 n3 : Nat) (hs : 1 ≤ s ∧ s ≤ 4) (hv : 1 ≤ v ∧ v ≤ 4) (u : World) : ∃ (D : List DeclP) (z : Int), D = (keysF (s : Int) (v : Int)).map (mkD (n2 : Int) ((max n3 n2 : Nat) : Int)) ∧
    Calls Try.prog 59 #[.int .i64 (s : Int), .int .i64 (v : Int), .int .i64 (n2 : Int), .int .i64 (n3 : Int)] u fun r w' => ∃ a k, r = .returned (.agg (GC s v a D.length k (prioF s v 0) 8 32 2 256 65536 256 z).toArray) ∧
      OwnR w' u.heap.size 98 6 (.slice a D.length k) (D.map declL) ∧ u.grownBy w' none := by
  have e : plainFVV (s : Int) (v : Int) (n2 : Int) (n3 : Int) = plainN s v (n2 : Int) ((max n3 n2 : Nat) : Int) := by
    unfold plainFVV
    rw [clamp4_small s hs.1 hs.2, clamp4_small v hv.1 hv.2, show max (n2 : Int) 0 = (n2 : Int) by omega, show max (n3 : Int) (n2 : Int) = ((max n3 n2 : Nat) : Int) by omega]
  refine ⟨(plainN s v (n2 : Int) ((max n3 n2 : Nat) : Int)).D, ((needF (plain0 s v (n2 : Int) ((max n3 n2 : Nat) : Int) 0) : Nat) : Int), plainN_D _ _ _ _, (ref_plain2 (s : Int) (v : Int) (n2 : Int) (n3 : Int) u).mono ?_⟩
  rw [e]
  rintro r w' ⟨a, k, h1, h2, h3⟩
  refine ⟨a, k, ?_, h2, h3⟩
  rw [h1]
  exact (plainN_cells s v _ _ a _ k _ rfl _ rfl).symm
theorem turn_val (x m n5 v : Nat) (hx : x < 4) (hm : m < 4) (h5 : n5 < 256) (_hv : 1 ≤ v ∧ v ≤ 4) :
    IntKind.u8.wrap ((IntKind.i64.wrap (IntKind.i64.wrap ((x : Int) + (m : Int)) + IntKind.i64.wrap (n5 : Int))).tmod (v : Int)) = ((UInt8.ofNat ((x + m + n5) % v)).toNat : Int) := by
  have e1 : IntKind.i64.wrap ((x : Int) + (m : Int)) = ((x + m : Nat) : Int) := by rw [IntKind.wrap_i64]; omega
  have e2 : IntKind.i64.wrap (n5 : Int) = (n5 : Int) := by rw [IntKind.wrap_i64]; omega
  have e3 : IntKind.i64.wrap (((x + m : Nat) : Int) + (n5 : Int)) = ((x + m + n5 : Nat) : Int) := by rw [IntKind.wrap_i64]; omega
  rw [e1, e2, e3, ← u8wrap]
  rfl
theorem rem_val (x k : Nat) (hx : x < 256) : IntKind.i64.wrap ((x : Int).tmod (k : Int)) = ((x % k : Nat) : Int) := by
  have h : x % k ≤ x := Nat.mod_le _ _
  rw [show (x : Int).tmod (k : Int) = ((x % k : Nat) : Int) from rfl, IntKind.wrap_i64]
  omega
theorem rem_val1 (x k : Nat) (hx : x < 256) : IntKind.i64.wrap (1 + IntKind.i64.wrap ((x : Int).tmod (k : Int))) = ((1 + x % k : Nat) : Int) := by
  rw [rem_val x k hx, IntKind.wrap_i64]
  have h : x % k ≤ x := Nat.mod_le _ _
  omega
theorem small_need (q : SmallQ) (hbl : q.bl ≤ 600) (a : Option Addr) (n k : Nat) (ca bs : Int) (u : World) :
    Calls Try.prog 60 #[.agg (GC q.s q.v a n k (turnF q.s q.v q.t q.s 0) q.sg q.od q.rt q.se ca q.bl bs).toArray] u fun r w' => r = .returned (.int .i64 (smallNeed q : Int)) ∧ u.grownBy w' none := by
  have h := ref_need (smallC q ca bs) a n k u (by simp only [smallC]; unfold i64; omega)
  rw [smallC_need] at h
  simpa only [smallC, GC] using h
theorem small_cells (q : SmallQ) (a : Option Addr) (n k : Nat) (ca bs : Int) (C : ConfP) (hC : smallC q ca bs = C) :
    Ending.returned (.agg (GC q.s q.v a n k (turnF q.s q.v q.t q.s 0) q.sg q.od q.rt q.se ca q.bl bs).toArray) = Ending.returned (.agg #[.int .i64 C.sk, .int .i64 C.wa, .slice a n k, .int .u8 ((C.p 0 0).toNat : Int), .int .u8 ((C.p 0 1).toNat : Int), .int .u8 ((C.p 0 2).toNat : Int), .int .u8 ((C.p 0 3).toNat : Int), .int .u8 ((C.p 1 0).toNat : Int), .int .u8 ((C.p 1 1).toNat : Int), .int .u8 ((C.p 1 2).toNat : Int), .int .u8 ((C.p 1 3).toNat : Int), .int .u8 ((C.p 2 0).toNat : Int), .int .u8 ((C.p 2 1).toNat : Int), .int .u8 ((C.p 2 2).toNat : Int), .int .u8 ((C.p 2 3).toNat : Int), .int .u8 ((C.p 3 0).toNat : Int), .int .u8 ((C.p 3 1).toNat : Int), .int .u8 ((C.p 3 2).toNat : Int), .int .u8 ((C.p 3 3).toNat : Int), .int .i64 C.sg, .int .i64 C.od, .int .i64 C.rt, .int .i64 C.se, .int .i64 C.ca, .int .i64 C.bl, .int .i64 C.bs]) := by
  subst hC
  simp only [smallC, GC]
theorem small_D (q : SmallQ) (ca bs : Int) : (smallC q ca bs).D = (keysF (q.s : Int) (q.v : Int)).map (mkS q.L q.I q.H) := by simp only [smallC]
theorem seg_val (x : Nat) (hx : x < 256) : IntKind.i64.wrap (64 + IntKind.i64.wrap (x : Int)) = ((64 + x : Nat) : Int) := by
  rw [show IntKind.i64.wrap (x : Int) = (x : Int) by rw [IntKind.wrap_i64]; omega, IntKind.wrap_i64]
  omega
theorem blk_val (x : Nat) (hx : x < 256) : IntKind.i64.wrap (64 + IntKind.i64.wrap (2 * IntKind.i64.wrap (x : Int))) = ((64 + 2 * x : Nat) : Int) := by
  rw [show IntKind.i64.wrap (x : Int) = (x : Int) by rw [IntKind.wrap_i64]; omega, show IntKind.i64.wrap (2 * (x : Int)) = 2 * (x : Int) by rw [IntKind.wrap_i64]; omega, IntKind.wrap_i64]
  omega
def LowRel (w : World) (P Z cs : List Value) (B g3 gr n k : Nat) (L : Int) (D : List DeclP) (iv : Value) (wr : World) : Prop := ∃ j : Nat, j ≤ n ∧ iv = .int .i64 j ∧ CB w wr P Z cs B g3 gr n k ((lowD L j D).map declL)
def TurnRel (w : World) (P Z : List Value) (B g3 gr n k s v t : Nat) (z : Int) (Ls : List (List Value)) (iv : Value) (wr : World) : Prop := ∃ m : Nat, m ≤ s ∧ iv = .int .i64 m ∧ CB w wr P Z (GC s v (some ⟨gr, 0, none⟩) n k (turnF s v t m 0) 8 32 2 256 65536 256 z) B g3 gr n k Ls
def TurnRel2 (w : World) (P Z : List Value) (B g3 gr n k s v t m : Nat) (z : Int) (Ls : List (List Value)) (iv : Value) (wr : World) : Prop := ∃ x : Nat, x ≤ v ∧ iv = .int .i64 x ∧ CB w wr P Z (GC s v (some ⟨gr, 0, none⟩) n k (turnF s v t m x) 8 32 2 256 65536 256 z) B g3 gr n k Ls
def mkL (L : Nat) (d : DeclP) : DeclP := { d with lo := -(L : Int) }
theorem low_step (L : Int) {j : Nat} {D : List DeclP} (h : j < D.length) (h' : j < ((lowD L j D).map declL).length) :
    ((lowD L j D).map declL).set j ((((lowD L j D).map declL)[j]).set 3 (.int .i64 (-L))) = (lowD L (j + 1) D).map declL := by
  rw [← lowD_step L h, List.map_set, List.getElem_map, lowD_get L h]
  rfl
theorem low_get (L : Int) {j : Nat} {D : List DeclP} (h : j < D.length) (h' : j < ((lowD L j D).map declL).length) : (((lowD L j D).map declL)[j])[3]? = some (.int .i64 (D[j]).lo) := by
  rw [List.getElem_map, lowD_get L h]
  rfl
theorem count_pos (s v : Nat) (hs : 1 ≤ s ∧ s ≤ 4) (hv : 1 ≤ v ∧ v ≤ 4) : 1 ≤ countF (s : Int) (v : Int) := by
  unfold countF
  rw [if_pos (by unfold fineF; rw [btw_true _ 1 4 (by omega) (by omega), btw_true _ 1 4 (by omega) (by omega)]; rfl), Int.toNat_natCast]
  generalize 2 * s * (v : Int).toNat = x
  omega
set_option maxHeartbeats 12800000 in
theorem conf_config (n0 n1 n2 n3 n4 n5 n6 n7 n8 n9 n10 n11 : Nat) (_h0 : n0 < 256) (_h1 : n1 < 256) (h2 : n2 < 256) (h3 : n3 < 65536) (_h4 : n4 < 256) (h5 : n5 < 256) (h6 : n6 < 256) (h7 : n7 < 256) (h8 : n8 < 256) (h9 : n9 < 256) (h10 : n10 < 65536) (h11 : n11 < 256) (w : World) :
    Calls Try.prog 30 #[.agg #[.int .u8 (n0 : Int), .int .u8 (n1 : Int), .int .u8 (n2 : Int), .int .u16 (n3 : Int), .int .u8 (n4 : Int), .int .u8 (n5 : Int), .int .u8 (n6 : Int), .int .u8 (n7 : Int), .int .u8 (n8 : Int), .int .u8 (n9 : Int), .int .u16 (n10 : Int), .int .u8 (n11 : Int)]] w
      (PlainPost w (smallC (smallQ n0 n1 n2 n3 n4 n5 n6 n7 n8 n9 n10 n11) (smallQ n0 n1 n2 n3 n4 n5 n6 n7 n8 n9 n10 n11).ca (smallNeed (smallQ n0 n1 n2 n3 n4 n5 n6 n7 n8 n9 n10 n11) : Nat))) := by
  obtain ⟨C, hC⟩ : ∃ C, smallC (smallQ n0 n1 n2 n3 n4 n5 n6 n7 n8 n9 n10 n11) (smallQ n0 n1 n2 n3 n4 n5 n6 n7 n8 n9 n10 n11).ca (smallNeed (smallQ n0 n1 n2 n3 n4 n5 n6 n7 n8 n9 n10 n11) : Nat) = C := ⟨_, rfl⟩
  rw [hC]
  have HC := Lib.hid (fun _ : True => hC)
  clear hC
  obtain ⟨s, hs⟩ : ∃ s, 1 + n0 % 3 = s := ⟨_, rfl⟩
  obtain ⟨v, hv⟩ : ∃ v, 1 + n1 % 3 = v := ⟨_, rfl⟩
  obtain ⟨s0, hs0⟩ : ∃ s, n0 % 3 = s := ⟨_, rfl⟩
  obtain ⟨v0, hv0⟩ : ∃ v, n1 % 3 = v := ⟨_, rfl⟩
  have q1 : (n0 : Int).tmod 3 = (s0 : Int) := by rw [← hs0]; rfl
  have q2 : (n1 : Int).tmod 3 = (v0 : Int) := by rw [← hv0]; rfl
  have hsb : 1 ≤ s ∧ s ≤ 3 := by omega
  have hvb : 1 ≤ v ∧ v ≤ 3 := by omega
  have HQ := Lib.hid (And.intro hs (And.intro hv (And.intro hs0 hv0)))
  have q5 : 1 + (s0 : Int) = (s : Int) := by omega
  have q6 : 1 + (v0 : Int) = (v : Int) := by omega
  have hs0b : s0 ≤ 2 := by omega
  have hv0b : v0 ≤ 2 := by omega
  have x0 : IntKind.u8.wrap (s0 : Int) = (s0 : Int) := by rw [IntKind.wrap_u8]; omega
  have x1 : IntKind.u8.wrap (v0 : Int) = (v0 : Int) := by rw [IntKind.wrap_u8]; omega
  clear hs hv hs0 hv0
  have hb1 := (Box.new w 57 [.int .u8 (n0 : Int), .int .u8 (n1 : Int), .int .u8 (n2 : Int), .int .u16 (n3 : Int), .int .u8 (n4 : Int), .int .u8 (n5 : Int), .int .u8 (n6 : Int), .int .u8 (n7 : Int), .int .u8 (n8 : Int), .int .u8 (n9 : Int), .int .u16 (n10 : Int), .int .u8 (n11 : Int)] w.heap.size rfl).alloc (.cells #[.int .i64 0, .int .i64 0, .slice none 0 0, .int .u8 0, .int .u8 0, .int .u8 0, .int .u8 0, .int .u8 0, .int .u8 0, .int .u8 0, .int .u8 0, .int .u8 0, .int .u8 0, .int .u8 0, .int .u8 0, .int .u8 0, .int .u8 0, .int .u8 0, .int .u8 0, .int .i64 0, .int .i64 0, .int .i64 0, .int .i64 0, .int .i64 0, .int .i64 0, .int .i64 0] 62)
  have hb2 := Box.new (w.alloc (.cells #[.int .u8 (n0 : Int), .int .u8 (n1 : Int), .int .u8 (n2 : Int), .int .u16 (n3 : Int), .int .u8 (n4 : Int), .int .u8 (n5 : Int), .int .u8 (n6 : Int), .int .u8 (n7 : Int), .int .u8 (n8 : Int), .int .u8 (n9 : Int), .int .u16 (n10 : Int), .int .u8 (n11 : Int)] 57)) 62 [.int .i64 0, .int .i64 0, .slice none 0 0, .int .u8 0, .int .u8 0, .int .u8 0, .int .u8 0, .int .u8 0, .int .u8 0, .int .u8 0, .int .u8 0, .int .u8 0, .int .u8 0, .int .u8 0, .int .u8 0, .int .u8 0, .int .u8 0, .int .u8 0, .int .u8 0, .int .i64 0, .int .i64 0, .int .i64 0, .int .i64 0, .int .i64 0, .int .i64 0, .int .i64 0] (w.heap.size + 1) (by simp)
  have hXL := hb1.look
  go_enter Try.func30, Try.ntmps30
  go_wp2_with fail
  clear x0 x1 q1 q2 q5 q6 hs0b hv0b hXL
  have hg1 := growAVV _ (.cells #[.int .i64 0, .int .i64 0, .slice none 0 0, .int .u8 0, .int .u8 0, .int .u8 0, .int .u8 0, .int .u8 0, .int .u8 0, .int .u8 0, .int .u8 0, .int .u8 0, .int .u8 0, .int .u8 0, .int .u8 0, .int .u8 0, .int .u8 0, .int .u8 0, .int .u8 0, .int .i64 0, .int .i64 0, .int .i64 0, .int .i64 0, .int .i64 0, .int .i64 0, .int .i64 0] 62) (World.grownBy_alloc w (.cells #[.int .u8 (n0 : Int), .int .u8 (n1 : Int), .int .u8 (n2 : Int), .int .u16 (n3 : Int), .int .u8 (n4 : Int), .int .u8 (n5 : Int), .int .u8 (n6 : Int), .int .u8 (n7 : Int), .int .u8 (n8 : Int), .int .u8 (n9 : Int), .int .u16 (n10 : Int), .int .u8 (n11 : Int)] 57) none)
  have hz1 : ((w.alloc (.cells #[.int .u8 (n0 : Int), .int .u8 (n1 : Int), .int .u8 (n2 : Int), .int .u16 (n3 : Int), .int .u8 (n4 : Int), .int .u8 (n5 : Int), .int .u8 (n6 : Int), .int .u8 (n7 : Int), .int .u8 (n8 : Int), .int .u8 (n9 : Int), .int .u16 (n10 : Int), .int .u8 (n11 : Int)] 57)).alloc (.cells #[.int .i64 0, .int .i64 0, .slice none 0 0, .int .u8 0, .int .u8 0, .int .u8 0, .int .u8 0, .int .u8 0, .int .u8 0, .int .u8 0, .int .u8 0, .int .u8 0, .int .u8 0, .int .u8 0, .int .u8 0, .int .u8 0, .int .u8 0, .int .u8 0, .int .u8 0, .int .i64 0, .int .i64 0, .int .i64 0, .int .i64 0, .int .i64 0, .int .i64 0, .int .i64 0] 62)).heap.size = w.heap.size + 2 := by simp
  generalize (w.alloc (.cells #[.int .u8 (n0 : Int), .int .u8 (n1 : Int), .int .u8 (n2 : Int), .int .u16 (n3 : Int), .int .u8 (n4 : Int), .int .u8 (n5 : Int), .int .u8 (n6 : Int), .int .u8 (n7 : Int), .int .u8 (n8 : Int), .int .u8 (n9 : Int), .int .u16 (n10 : Int), .int .u8 (n11 : Int)] 57)).alloc (.cells #[.int .i64 0, .int .i64 0, .slice none 0 0, .int .u8 0, .int .u8 0, .int .u8 0, .int .u8 0, .int .u8 0, .int .u8 0, .int .u8 0, .int .u8 0, .int .u8 0, .int .u8 0, .int .u8 0, .int .u8 0, .int .u8 0, .int .u8 0, .int .u8 0, .int .u8 0, .int .i64 0, .int .i64 0, .int .i64 0, .int .i64 0, .int .i64 0, .int .i64 0, .int .i64 0] 62) = w1 at *
  obtain ⟨D, z, hD, HPL⟩ := plain_small s v n2 n3 ⟨hsb.1, by omega⟩ ⟨hvb.1, by omega⟩ w1
  refine HPL.mono ?_
  rintro r w2 ⟨a, k, rfl, how, hg2⟩
  have hn40 : D.length ≤ 40 := by rw [hD, List.length_map, keysF_len]; exact countF_le _ _
  have hn1 : 1 ≤ D.length := by rw [hD, List.length_map, keysF_len]; exact count_pos s v ⟨hsb.1, by omega⟩ ⟨hvb.1, by omega⟩
  have HD := Lib.hid (fun _ : True => hD)
  obtain ⟨gr, cap, hsl⟩ := Joins.ownsRow_form how.2 (by rw [List.length_map]; omega)
  rw [List.length_map] at hsl
  cases hsl
  obtain ⟨n, hn⟩ : ∃ n, D.length = n := ⟨_, rfl⟩
  have HN := Lib.hid (fun _ : True => hn)
  simp only [hn] at how hn40 hn1 ⊢
  clear hn hD HPL
  have hgl := how.lt gr rfl
  have hst : (w2.alloc (.cells #[.int .i64 0, .int .i64 0, .slice none 0 0, .int .u8 0, .int .u8 0, .int .u8 0, .int .u8 0, .int .u8 0, .int .u8 0, .int .u8 0, .int .u8 0, .int .u8 0, .int .u8 0, .int .u8 0, .int .u8 0, .int .u8 0, .int .u8 0, .int .u8 0, .int .u8 0, .int .i64 0, .int .i64 0, .int .i64 0, .int .i64 0, .int .i64 0, .int .i64 0, .int .i64 0] 62)).setRow w2.heap.size (GC s v (some ⟨gr, 0, none⟩) n k (prioF s v 0) 8 32 2 256 65536 256 z).toArray = w2.alloc (.cells (GC s v (some ⟨gr, 0, none⟩) n k (prioF s v 0) 8 32 2 256 65536 256 z).toArray 62) := Go.World.setRow_alloc_new _ _ _ _
  have hcb : CB w (w2.alloc (.cells (GC s v (some ⟨gr, 0, none⟩) n k (prioF s v 0) 8 32 2 256 65536 256 z).toArray 62)) _ _ (GC s v (some ⟨gr, 0, none⟩) n k (prioF s v 0) 8 32 2 256 65536 256 z) w1.heap.size w2.heap.size gr n k (D.map declL) :=
    ⟨(hb1.grown hg2).alloc _, (hb2.grown hg2).alloc _, Box.new w2 _ _ _ rfl, how.grown (World.grownBy_alloc _ _ none), grown_trans hg1 (growAVV _ _ hg2)⟩
  have HST := Lib.hid (fun _ : True => hst)
  have hne3 : gr ≠ w2.heap.size := by omega
  have hlo3 : w.heap.size + 2 ≤ w2.heap.size := by have := hg2.size; omega
  have hBl : w.heap.size + 2 ≤ w1.heap.size := by omega
  obtain ⟨w3, hw3⟩ : ∃ u, w2.alloc (.cells (GC s v (some ⟨gr, 0, none⟩) n k (prioF s v 0) 8 32 2 256 65536 256 z).toArray 62) = u := ⟨_, rfl⟩
  rw [hw3] at hcb HST
  have HCB := Lib.hid hcb
  have HBZ := Lib.hid (Box.new w2 62 [.int .i64 0, .int .i64 0, .slice none 0 0, .int .u8 0, .int .u8 0, .int .u8 0, .int .u8 0, .int .u8 0, .int .u8 0, .int .u8 0, .int .u8 0, .int .u8 0, .int .u8 0, .int .u8 0, .int .u8 0, .int .u8 0, .int .u8 0, .int .u8 0, .int .u8 0, .int .i64 0, .int .i64 0, .int .i64 0, .int .i64 0, .int .i64 0, .int .i64 0, .int .i64 0] _ rfl)
  clear hst hcb hb1 hb2 how hg2 hg1 hz1 hw3 hgl
  have HNE := Lib.hid hne3; have HLO := Lib.hid hlo3; have HBL := Lib.hid hBl
  generalize w1.heap.size = B at *
  go_wp2_with (refine wpList_store_conf (o := ⟨none, .store 62 _ _, _, _, _, _⟩) rfl _ _ rfl w2.heap.size _ _ rfl rfl HBZ.out (GC.len ..) rfl (GC.one ..) ?_; rw [HST.out trivial])
  clear HBZ HST
  generalize w2.heap.size = g3 at *
  obtain ⟨L, hL⟩ : ∃ L, n4 % 4 = L := ⟨_, rfl⟩
  have hLb : L ≤ 3 := by omega
  have q4 : (n4 : Int).tmod 4 = (L : Int) := by rw [← hL]; rfl
  have x4 : IntKind.u8.wrap (L : Int) = (L : Int) := by rw [IntKind.wrap_u8]; omega
  have HLL := Lib.hid (fun _ : True => hL)
  clear hL hne3 hlo3 hBl
  go_loopw [4] (fun iv wr => LowRel w [.int .u8 (n0 : Int), .int .u8 (n1 : Int), .int .u8 (n2 : Int), .int .u16 (n3 : Int), .int .u8 (n4 : Int), .int .u8 (n5 : Int), .int .u8 (n6 : Int), .int .u8 (n7 : Int), .int .u8 (n8 : Int), .int .u8 (n9 : Int), .int .u16 (n10 : Int), .int .u8 (n11 : Int)] [.int .i64 0, .int .i64 0, .slice none 0 0, .int .u8 0, .int .u8 0, .int .u8 0, .int .u8 0, .int .u8 0, .int .u8 0, .int .u8 0, .int .u8 0, .int .u8 0, .int .u8 0, .int .u8 0, .int .u8 0, .int .u8 0, .int .u8 0, .int .u8 0, .int .u8 0, .int .i64 0, .int .i64 0, .int .i64 0, .int .i64 0, .int .i64 0, .int .i64 0, .int .i64 0] (GC s v (some ⟨gr, 0, none⟩) n k (prioF s v 0) 8 32 2 256 65536 256 z) B g3 gr n k (L : Int) D iv wr) (fun iv _ => n - (intOf iv).toNat)
  case atStart => exact ⟨0, Nat.zero_le _, rfl, by rw [lowD_zero]; exact HCB.out⟩
  case round =>
    obtain ⟨j, hj, rfl, hcb⟩ := hrel
    have HCR := Lib.hid hcb
    have c2 : wr.cell? ⟨g3, 2, none⟩ = some (.slice (some ⟨gr, 0, none⟩) n k) := hcb.2.2.1.cell 2 rfl
    have c4 : wr.cell? ⟨w.heap.size, 4, none⟩ = some (.int .u8 (n4 : Int)) := hcb.1.cell 4 rfl
    by_cases hlt : j < n
    · have hjD : j < D.length := by rw [HN.out trivial]; exact hlt
      have hjl : j < ((lowD (L : Int) j D).map declL).length := by rw [List.length_map, lowD_len]; exact hjD
      have hll : ((lowD (L : Int) j D).map declL).length = n := by rw [List.length_map, lowD_len]; exact HN.out trivial
      have d3 := (hcb.look hjl 3 (by decide)).trans (low_get (L : Int) hjD hjl)
      have f3 := hcb.free hll (j * 6 + 3)
      have hlow := hcb.low HBL.out HNE.out hjl hll (.int .i64 (-(L : Int)))
      rw [low_step (L : Int) hjD hjl] at hlow
      have PP := Lib.hid hlow
      have i0 : (0 : Int) ≤ (j : Int) := by omega
      have i1 : (j : Int) < (n : Int) := by omega
      obtain ⟨lo, hlo⟩ : ∃ lo, (D[j]).lo = lo := ⟨_, rfl⟩
      rw [hlo] at d3
      clear hcb hlow hlo hjl hll
      go_wp2_with fail
      go_roundw
      all_goals first
        | (exact ⟨j + 1, by omega, by go_num, PP.out⟩)
        | (simp [intOf]; omega)
    · obtain rfl : j = n := by omega
      have HCR := Lib.hid (show CB w wr _ _ _ B g3 gr j k ((D.map (mkL L)).map declL) by
        have h := HCR.out
        rw [lowD_all (L : Int) D (by rw [HN.out trivial]; exact Nat.le_refl _)] at h
        exact h)
      clear hcb c4
      go_wp2_with fail
      have HDD := Lib.hid (fun _ : True => show (D.map (mkL L)).length = j by rw [List.length_map]; exact HN.out trivial)
      obtain ⟨Ls, hLs⟩ : ∃ Ls, (D.map (mkL L)).map declL = Ls := ⟨_, rfl⟩
      rw [hLs] at HCR
      have HLS := Lib.hid (fun _ : True => hLs)
      clear hLs c2 hlt hj q4 x4
      have HN5 := Lib.hid h5
      obtain ⟨wa, hwa⟩ : ∃ u, u = wr := ⟨_, rfl⟩
      subst hwa
      have hz0 := turnF_zero s v n5
      rw [← hz0] at HCR
      clear hz0
      go_loopw [5] (fun iv wr => TurnRel w [.int .u8 (n0 : Int), .int .u8 (n1 : Int), .int .u8 (n2 : Int), .int .u16 (n3 : Int), .int .u8 (n4 : Int), .int .u8 (n5 : Int), .int .u8 (n6 : Int), .int .u8 (n7 : Int), .int .u8 (n8 : Int), .int .u8 (n9 : Int), .int .u16 (n10 : Int), .int .u8 (n11 : Int)] [.int .i64 0, .int .i64 0, .slice none 0 0, .int .u8 0, .int .u8 0, .int .u8 0, .int .u8 0, .int .u8 0, .int .u8 0, .int .u8 0, .int .u8 0, .int .u8 0, .int .u8 0, .int .u8 0, .int .u8 0, .int .u8 0, .int .u8 0, .int .u8 0, .int .u8 0, .int .i64 0, .int .i64 0, .int .i64 0, .int .i64 0, .int .i64 0, .int .i64 0, .int .i64 0] B g3 gr j k s v n5 z Ls iv wr) (fun iv _ => s - (intOf iv).toNat)
      case atStart => exact ⟨0, Nat.zero_le _, rfl, HCR.out⟩
      case round =>
        obtain ⟨wb, hwb⟩ : ∃ u, u = wr := ⟨_, rfl⟩
        subst hwb
        obtain ⟨m, hm, rfl, hcb⟩ := hrel
        have HCR := Lib.hid hcb
        have c0 : wb.cell? ⟨g3, 0, none⟩ = some (.int .i64 (s : Int)) := hcb.2.2.1.cell 0 rfl
        clear hcb
        by_cases hlt : m < s
        · go_wp2_with fail
          clear c0
          go_loopw [6] (fun iv wr => TurnRel2 w [.int .u8 (n0 : Int), .int .u8 (n1 : Int), .int .u8 (n2 : Int), .int .u16 (n3 : Int), .int .u8 (n4 : Int), .int .u8 (n5 : Int), .int .u8 (n6 : Int), .int .u8 (n7 : Int), .int .u8 (n8 : Int), .int .u8 (n9 : Int), .int .u16 (n10 : Int), .int .u8 (n11 : Int)] [.int .i64 0, .int .i64 0, .slice none 0 0, .int .u8 0, .int .u8 0, .int .u8 0, .int .u8 0, .int .u8 0, .int .u8 0, .int .u8 0, .int .u8 0, .int .u8 0, .int .u8 0, .int .u8 0, .int .u8 0, .int .u8 0, .int .u8 0, .int .u8 0, .int .u8 0, .int .i64 0, .int .i64 0, .int .i64 0, .int .i64 0, .int .i64 0, .int .i64 0, .int .i64 0] B g3 gr j k s v n5 m z Ls iv wr) (fun iv _ => v - (intOf iv).toNat)
          case atStart => exact ⟨0, Nat.zero_le _, rfl, HCR.out⟩
          case round =>
            obtain ⟨x, hx, rfl, hcb⟩ := hrel
            have HCX := Lib.hid hcb
            have c1 : wr.cell? ⟨g3, 1, none⟩ = some (.int .i64 (v : Int)) := hcb.2.2.1.cell 1 rfl
            by_cases hlx : x < v
            · have c5 : wr.cell? ⟨w.heap.size, 5, none⟩ = some (.int .u8 (n5 : Int)) := hcb.1.cell 5 rfl
              have hp1 := (hcb.2.2.1.look (3 + m * 4 + x)).trans (GC.p_get s v _ j k _ _ _ _ _ _ _ _ (show m < 4 by omega) (show x < 4 by omega))
              have hp2 := hcb.2.2.1.open
              obtain ⟨old, hold⟩ : ∃ o, (turnF s v n5 m x m x).toNat = o := ⟨_, rfl⟩
              rw [hold] at hp1
              obtain ⟨y, hy⟩ : ∃ y, x + m + n5 = y := ⟨_, rfl⟩
              obtain ⟨e, he⟩ : ∃ e, y % v = e := ⟨_, rfl⟩
              have heb : e < v := by rw [← he]; exact Nat.mod_lt _ (by omega)
              have q1 : (x : Int) + (m : Int) + (n5 : Int) = (y : Int) := by omega
              have q2 : (y : Int).tmod (v : Int) = (e : Int) := by rw [← he]; rfl
              have q3 : ((v : Int) == 0) = false := by rw [beq_eq_false_iff_ne]; omega
              have q4 : ¬ v = 0 := by omega
              have q5 : IntKind.u8.wrap (e : Int) = ((UInt8.ofNat e).toNat : Int) := u8wrap e
              have q6 : IntKind.i64.wrap (e : Int) = (e : Int) := by rw [IntKind.wrap_i64]; omega
              have q7 : IntKind.i64.wrap (y : Int) = (y : Int) := by rw [IntKind.wrap_i64]; omega
              have q8 : wrap64 (y : Int) = (y : Int) := by unfold wrap64; omega
              have hst := GC.p_set s v (some ⟨gr, 0, none⟩) j k (turnF s v n5 m x) 8 32 2 256 65536 256 z (show m < 4 by omega) (show x < 4 by omega) (UInt8.ofNat e)
              have hse : UInt8.ofNat e = UInt8.ofNat ((x + m + n5) % v) := by rw [← he, ← hy]
              rw [show (fun i' j' => if i' = m ∧ j' = x then UInt8.ofNat e else turnF s v n5 m x i' j') = turnF s v n5 m (x + 1) by rw [← turnF_step, hse]] at hst
              have PP := Lib.hid (fun u (hu : wr.grownBy u none) => (hcb.grown hu).set3 HLO.out HNE.out (3 + m * 4 + x) (.int .u8 ((UInt8.ofNat e).toNat : Int)) hst)
              have i0 : (m : Int) < 4 := by omega
              have i1 : (x : Int) < 4 := by omega
              have hval := turn_val x m n5 v (by omega) (by omega) HN5.out (by omega)
              rw [hy, he] at hval
              clear hcb hold hy he hst hse
              obtain ⟨E, hE⟩ : ∃ E, (UInt8.ofNat e).toNat = E := ⟨_, rfl⟩
              rw [hE] at PP q5 hval
              clear hE
              have HV := Lib.hid (fun _ : True => hval)
              clear hval
              go_wp2_with fail
              go_region_law (fail)
              all_goals (
                rw [HV.out trivial]
                clear q1 q2 q3 q4 q5 q6 q7 q8
                have PQ := Lib.hid ((PP.out wr (World.grownBy.refl _ _)).grown (grown_drew1 _))
                go_wp2_with fail
                go_roundw
                all_goals first
                  | (exact ⟨x + 1, by omega, by go_num, PQ.out⟩)
                  | (simp [intOf]; omega))
            · obtain rfl : x = v := by omega
              have hcr := HCX.out
              rw [turnF_row] at hcr
              have PP := Lib.hid hcr
              clear hcb hcr
              go_wp2_with fail
              go_roundw
              all_goals first
                | (exact ⟨m + 1, by omega, by go_num, PP.out⟩)
                | (simp [intOf]; omega)
        · obtain rfl : m = s := by omega
          have hcb := HCR.out
          have k6 : wb.cell? ⟨w.heap.size, 6, none⟩ = some (.int .u8 (n6 : Int)) := hcb.1.cell 6 rfl
          have k7 : wb.cell? ⟨w.heap.size, 7, none⟩ = some (.int .u8 (n7 : Int)) := hcb.1.cell 7 rfl
          have k8 : wb.cell? ⟨w.heap.size, 8, none⟩ = some (.int .u8 (n8 : Int)) := hcb.1.cell 8 rfl
          have d19 : wb.cell? ⟨g3, 19, none⟩ = some (.int .i64 8) := hcb.2.2.1.cell 19 rfl
          have d20 : wb.cell? ⟨g3, 20, none⟩ = some (.int .i64 32) := hcb.2.2.1.cell 20 rfl
          have d21 : wb.cell? ⟨g3, 21, none⟩ = some (.int .i64 2) := hcb.2.2.1.cell 21 rfl
          have fz := hcb.2.2.1.open
          have SI := set_idx
          clear hcb hlt
          obtain ⟨sg, hsg⟩ : ∃ z, 1 + n6 % 8 = z := ⟨_, rfl⟩
          obtain ⟨od, hod⟩ : ∃ z, 1 + n7 % 32 = z := ⟨_, rfl⟩
          obtain ⟨rt, hrt⟩ : ∃ z, n8 % 5 = z := ⟨_, rfl⟩
          have v6 := rem_val1 n6 8 h6
          have v7 := rem_val1 n7 32 h7
          have v8 := rem_val n8 5 h8
          rw [hsg] at v6
          rw [hod] at v7
          rw [hrt] at v8
          have HV := Lib.hid (fun _ : True => And.intro v6 (And.intro v7 v8))
          have HSO := Lib.hid (fun _ : True => And.intro hsg (And.intro hod hrt))
          clear v6 v7 v8 hsg hod hrt
          go_wp2_with fail
          clear c0
          go_cut [] (fun wx => CB w wx [.int .u8 (n0 : Int), .int .u8 (n1 : Int), .int .u8 (n2 : Int), .int .u16 (n3 : Int), .int .u8 (n4 : Int), .int .u8 (n5 : Int), .int .u8 (n6 : Int), .int .u8 (n7 : Int), .int .u8 (n8 : Int), .int .u8 (n9 : Int), .int .u16 (n10 : Int), .int .u8 (n11 : Int)] [.int .i64 0, .int .i64 0, .slice none 0 0, .int .u8 0, .int .u8 0, .int .u8 0, .int .u8 0, .int .u8 0, .int .u8 0, .int .u8 0, .int .u8 0, .int .u8 0, .int .u8 0, .int .u8 0, .int .u8 0, .int .u8 0, .int .u8 0, .int .u8 0, .int .u8 0, .int .i64 0, .int .i64 0, .int .i64 0, .int .i64 0, .int .i64 0, .int .i64 0, .int .i64 0] (GC m v (some ⟨gr, 0, none⟩) j k (turnF m v n5 m 0) sg od rt 256 65536 256 z) B g3 gr j k Ls)
          case first =>
            go_region_law (fail)
            all_goals (
              have h1 := (HV.out trivial).1
              have h2 := (HV.out trivial).2.1
              have h3 := (HV.out trivial).2.2
              rw [show IntKind.i64.wrap (1 + IntKind.i64.wrap ((n6 : Int).tmod 8)) = (sg : Int) from h1, show IntKind.i64.wrap (1 + IntKind.i64.wrap ((n7 : Int).tmod 32)) = (od : Int) from h2, show IntKind.i64.wrap ((n8 : Int).tmod 5) = (rt : Int) from h3]
              clear h1 h2 h3
              go_wp2_with fail
              go_meet
              exact CB.grown (CB.set3 (CB.set3 (CB.set3 HCR.out HLO.out HNE.out _ _ rfl) HLO.out HNE.out _ _ rfl) HLO.out HNE.out _ _ rfl) (grown_drew1 _))
          case rest =>
          clear k6 k7 k8 d19 d20 d21 fz HCR
          have HCR := Lib.hid hcut
          have k9 : wc.cell? ⟨w.heap.size, 9, none⟩ = some (.int .u8 (n9 : Int)) := hcut.1.cell 9 rfl
          have k11 : wc.cell? ⟨w.heap.size, 11, none⟩ = some (.int .u8 (n11 : Int)) := hcut.1.cell 11 rfl
          have d22 : wc.cell? ⟨g3, 22, none⟩ = some (.int .i64 256) := hcut.2.2.1.cell 22 rfl
          have d24 : wc.cell? ⟨g3, 24, none⟩ = some (.int .i64 256) := hcut.2.2.1.cell 24 rfl
          have fz := hcut.2.2.1.open
          clear hcut
          go_wp2_with fail
          go_cut [] (fun wx => CB w wx [.int .u8 (n0 : Int), .int .u8 (n1 : Int), .int .u8 (n2 : Int), .int .u16 (n3 : Int), .int .u8 (n4 : Int), .int .u8 (n5 : Int), .int .u8 (n6 : Int), .int .u8 (n7 : Int), .int .u8 (n8 : Int), .int .u8 (n9 : Int), .int .u16 (n10 : Int), .int .u8 (n11 : Int)] [.int .i64 0, .int .i64 0, .slice none 0 0, .int .u8 0, .int .u8 0, .int .u8 0, .int .u8 0, .int .u8 0, .int .u8 0, .int .u8 0, .int .u8 0, .int .u8 0, .int .u8 0, .int .u8 0, .int .u8 0, .int .u8 0, .int .u8 0, .int .u8 0, .int .u8 0, .int .i64 0, .int .i64 0, .int .i64 0, .int .i64 0, .int .i64 0, .int .i64 0, .int .i64 0] (GC m v (some ⟨gr, 0, none⟩) j k (turnF m v n5 m 0) sg od rt ((64 + n9 : Nat) : Int) 65536 ((64 + 2 * n11 : Nat) : Int) z) B g3 gr j k Ls)
          case first =>
            go_region_law (fail)
            all_goals (
              rw [seg_val n9 h9, blk_val n11 h11]
              go_wp2_with fail
              go_meet
              exact CB.grown (CB.set3 (CB.set3 HCR.out HLO.out HNE.out _ _ rfl) HLO.out HNE.out _ _ rfl) (grown_drew1 _))
          case rest =>
          clear k9 k11 d22 d24 fz HCR
          have HCR := Lib.hid hcut
          obtain ⟨se, hse⟩ : ∃ z, 64 + n9 = z := ⟨_, rfl⟩
          obtain ⟨bl, hbl⟩ : ∃ z, 64 + 2 * n11 = z := ⟨_, rfl⟩
          obtain ⟨ca, hca⟩ : ∃ z, se + 1 + n10 = z := ⟨_, rfl⟩
          rw [hse, hbl] at HCR hcut
          have hseb : se ≤ 400 := by omega
          have HBLB := Lib.hid (show bl ≤ 600 by omega)
          have k10 : wc.cell? ⟨w.heap.size, 10, none⟩ = some (.int .u16 (n10 : Int)) := hcut.1.cell 10 rfl
          have d22 : wc.cell? ⟨g3, 22, none⟩ = some (.int .i64 (se : Int)) := hcut.2.2.1.cell 22 rfl
          have d23 : wc.cell? ⟨g3, 23, none⟩ = some (.int .i64 65536) := hcut.2.2.1.cell 23 rfl
          have fz := hcut.2.2.1.open
          have q9 : (se : Int) + 1 + (n10 : Int) = (ca : Int) := by omega
          have PP := Lib.hid (hcut.set3 HLO.out HNE.out 23 (.int .i64 (ca : Int)) (rfl : _ = GC m v (some ⟨gr, 0, none⟩) j k (turnF m v n5 m 0) sg od rt se (ca : Int) bl z))
          have PB := Lib.hid PP.out.2.2.1
          have HQE := Lib.hid (fun _ : True => show smallQ n0 n1 n2 n3 n4 n5 n6 n7 n8 n9 n10 n11 = ⟨m, v, n2, ((max n3 n2 : Nat) : Int), ((L : Nat) : Int), n5, sg, od, rt, se, bl, ca⟩ by
            unfold smallQ
            rw [HQ.out.1, HQ.out.2.1, HLL.out trivial, (HSO.out trivial).1, (HSO.out trivial).2.1, (HSO.out trivial).2.2, hse, hbl, hca])
          clear hcut hse hbl hca
          go_wp2_with (refine wpList_load_conf (o := ⟨some 105, _, _, _, _, _⟩) rfl _ rfl g3 _ rfl PB.out (GC.len ..) ?_)
          obtain ⟨q, hq⟩ : ∃ q : SmallQ, q = ⟨m, v, n2, ((max n3 n2 : Nat) : Int), ((L : Nat) : Int), n5, sg, od, rt, se, bl, ca⟩ := ⟨_, rfl⟩
          have HC := Lib.hid (fun _ : True => show smallC q (ca : Int) (smallNeed q : Nat) = C by
            have h := HC.out trivial
            rw [HQE.out trivial, ← hq] at h
            rw [← h, hq])
          obtain ⟨nd, hnd⟩ : ∃ z : Nat, smallNeed q = z := ⟨_, rfl⟩
          have hneed := fun u => small_need q (by rw [hq]; exact HBLB.out) (some ⟨gr, 0, none⟩) j k (ca : Int) z u
          have hcell := small_cells q (some ⟨gr, 0, none⟩) j k (ca : Int) (nd : Int) C (by rw [← hnd]; exact HC.out trivial)
          have hCD : C.D = (D.map (mkL L)) := by
            rw [← HC.out trivial, small_D, HD.out trivial, List.map_map, hq]
            rfl
          rw [hnd] at hneed
          subst hq
          dsimp only at hneed hcell
          have HNE2 := Lib.hid hneed
          have HCL := Lib.hid (fun _ : True => hcell)
          have HCD := Lib.hid (fun _ : True => hCD)
          clear hneed hcell hCD hnd k10 d22 d23 fz q9
          refine (HNE2.out _).mono ?_
          rintro r w10 ⟨rfl, hg10⟩
          have hcb := PP.out.grown hg10
          have c25 : w10.cell? ⟨g3, 25, none⟩ = some (.int .i64 z) := hcb.2.2.1.cell 25 rfl
          have f25 := hcb.2.2.1.open
          have P2 := Lib.hid (hcb.set3 HLO.out HNE.out 25 (.int .i64 (nd : Int)) (rfl : _ = GC m v (some ⟨gr, 0, none⟩) j k (turnF m v n5 m 0) sg od rt se (ca : Int) bl (nd : Int)))
          have PB2 := Lib.hid P2.out.2.2.1
          have PB3 := Lib.hid P2.out.2.1
          clear hcb hg10
          go_wp2_with (first
            | (refine wpList_load_conf (o := ⟨some 108, _, _, _, _, _⟩) rfl _ rfl g3 _ rfl PB2.out (GC.len ..) ?_)
            | (refine wpList_store_conf (o := ⟨none, .store 62 _ _, _, _, _, _⟩) rfl _ _ rfl (w.heap.size + 1) _ _ rfl rfl PB3.out (GC.len ..) rfl (GC.one ..) ?_))
          refine bodyPost_conf (p := 2) rfl ?_ (Box.row PB3.out) (GC.len ..) rfl ?_
          · go_simp
          have how := P2.out.2.2.2.1.kept (grown_setRow _ (w.heap.size + 1) (GC m v (some ⟨gr, 0, none⟩) j k (turnF m v n5 m 0) sg od rt se (ca : Int) bl (nd : Int)).toArray) (.inr fun e => by have h1 := (P2.out.2.2.2.1.lt _ e).1; have h2 := HBL.out; omega)
          rw [← HLS.out trivial] at how
          refine ⟨some ⟨gr, 0, none⟩, k, ?_, ?_, grown_new P2.out.2.2.2.2 (Nat.le_succ _) (grown_setRow _ _ _)⟩
          · rw [HCL.out trivial, show C.D.length = j by rw [HCD.out trivial]; exact HDD.out trivial]
          · rw [HCD.out trivial]
            exact how.decls.2

end Go.Proofs.Ytomnhgcjdnhijaa
