/-
  WireReads.
-/
import Derived.Test.YthpoccjlhcpoiaaWireGet
import Derived.Test.YthpoccjlhcpoiaaWirePut
namespace Go.Proofs.Ythpoccjlhcpoiaa
open Go.RowKit

/-- what 'read' reads -/
def readI (e : Int) (l : List UInt8) (A : ItemV) : (Nat × List UInt8) × Int × List UInt8 :=
  if A.k.toNat % 5 = 1 then (((numR e l 8).1, []), (numR e l 8).2) else
  if A.k.toNat % 5 = 2 then ((if (boolR e l).1 then 1 else 0, []), (boolR e l).2) else
  if A.k.toNat % 5 = 3 then ((0, (bytesR e l A.n).1), (bytesR e l A.n).2) else (((numR e l A.n).1, []), (numR e l A.n).2)
/-- what 'got' says -/
def gotI (l : List UInt8) (A : ItemV) : Nat × List UInt8 × List UInt8 × Int :=
  if A.k.toNat % 5 = 1 then ((getNum l 8).1, [], (getNum l 8).2) else
  if A.k.toNat % 5 = 2 then (if (getBool l).1 then 1 else 0, [], (getBool l).2) else
  if A.k.toNat % 5 = 3 then (0, (getBytes l A.n).1, (getBytes l A.n).2) else ((getNum l A.n).1, [], (getNum l A.n).2)

theorem left_alike {e : Int} {l rest : List UInt8} {n : Nat} (h : (e = 0 → l = rest) ∧ (e ≠ 0 → rest = [])) (hn : rest.length = n) : (if e = 0 then (l.length : Int) else 0) = (n : Int) := by
  by_cases he : e = 0
  · rw [if_pos he, h.1 he, hn]
  · rw [if_neg he, ← hn, h.2 he]; rfl
/-- the one and the other -/
def Alike (r : Int × List UInt8) (rest : List UInt8) : Prop := (r.1 = 0 → r.2 = rest) ∧ (r.1 ≠ 0 → rest = [])
theorem num_alike (l : List UInt8) (n : Int) : (numR 0 l n).1 = (getNum l n).1 ∧ (numR 0 l n).2.1 = (getNum l n).2.2 ∧ Alike (numR 0 l n).2 (getNum l n).2.1 := by
  unfold numR getNum Alike
  by_cases h : n < 1 ∨ 8 < n
  · rw [if_pos h, if_pos h]; simp
  · rw [if_neg h, if_neg h]
    unfold takeR
    by_cases h2 : l.length < n.toNat
    · rw [if_neg (by simp), if_pos h2, if_pos (by omega)]; simp [valN]
    · rw [if_neg (by simp), if_neg h2, if_neg (by omega)]; simp
theorem bool_alike (l : List UInt8) : (boolR 0 l).1 = (getBool l).1 ∧ (boolR 0 l).2.1 = (getBool l).2.2 ∧ Alike (boolR 0 l).2 (getBool l).2.1 := by
  cases l with
  | nil => unfold boolR getBool Alike numR takeR; simp [valN]
  | cons c l =>
    have h1 : numR 0 (c :: l) 1 = (c.toNat, 0, l) := by unfold numR takeR; simp [valN]
    unfold boolR getBool Alike
    rw [h1]
    simp only [List.length_cons, List.headD_cons, List.drop_succ_cons, List.drop_zero]
    rw [if_neg (by omega)]
    by_cases h : 1 < c.toNat
    · rw [if_pos h, if_pos h]
      simp; omega
    · rw [if_neg h, if_neg h]
      simp only [ne_eq, not_true_eq_false, false_implies, and_true, implies_true]
      rw [Bool.eq_iff_iff]
      simp only [beq_iff_eq]
      constructor
      · intro h; exact UInt8.toNat_inj.1 h
      · intro h; subst h; rfl
theorem bytes_alike (l : List UInt8) (n : Int) : (bytesR 0 l n).1 = (getBytes l n).1 ∧ (bytesR 0 l n).2.1 = (getBytes l n).2.2 ∧ Alike (bytesR 0 l n).2 (getBytes l n).2.1 := by
  obtain ⟨h1, h2, h3⟩ := num_alike l 2
  unfold bytesR getBytes
  generalize numR 0 l 2 = t at *
  generalize getNum l 2 = u at *
  obtain ⟨x, e, r⟩ := t
  obtain ⟨y, s, f⟩ := u
  simp only at h1 h2 h3 ⊢
  subst h1 h2
  by_cases he : e = 0
  · subst he
    have : r = s := h3.1 rfl
    subst this
    unfold takeR Alike
    by_cases hm : n < (x : Int)
    · simp [hm]
    · by_cases hl : r.length < x
      · simp [hm, hl]
      · simp [hm, hl]
  · rw [if_pos he, if_pos he]
    simp [Alike, he]
theorem read_alike (l : List UInt8) (A : ItemV) : (readI 0 l A).1.1 = (gotI l A).1 ∧ (readI 0 l A).1.2 = (gotI l A).2.1 ∧ (readI 0 l A).2.1 = (gotI l A).2.2.2 ∧ Alike (readI 0 l A).2 (gotI l A).2.2.1 := by
  unfold readI gotI
  split
  · obtain ⟨a, b, c⟩ := num_alike l 8; exact ⟨a, rfl, b, c⟩
  · split
    · obtain ⟨a, b, c⟩ := bool_alike l; exact ⟨by simp only [a], rfl, b, c⟩
    · split
      · obtain ⟨a, b, c⟩ := bytes_alike l A.n; exact ⟨rfl, a, b, c⟩
      · obtain ⟨a, b, c⟩ := num_alike l A.n; exact ⟨a, rfl, b, c⟩
theorem read_bad {e : Int} (h : e ≠ 0) (l : List UInt8) (A : ItemV) : readI e l A = ((0, []), e, l) := by
  unfold readI
  rw [numR_bad h, boolR_bad h, bytesR_bad h, numR_bad h]
  simp

def ReadPost (w : World) (g : Nat) (X : Nat → Prop) (t : (Nat × List UInt8) × Int × List UInt8) (r : Ending) (w' : World) : Prop :=
  ∃ a n c, r = .returned (.tuple #[.int .u64 (t.1.1 : Int), .slice a n c]) ∧ t.1.2.length = n ∧ RX w' X a t.1.2 ∧ ReaderAt w' g X t.2.1 t.2.2 ∧ w.grownBy w' (some g)

set_option maxHeartbeats 1600000 in
theorem wire_readI {w : World} {g : Nat} {X : Nat → Prop} {e : Int} {l : List UInt8} (R : ReaderAt w g X e l) (A : ItemV) :
    Calls Try.prog 19 #[.pointer (some ⟨g, 0, none⟩), .agg #[.int .u8 (A.k.toNat : Int), .int .u64 (A.x : Int), .int .i64 A.n, .slice A.a A.len A.cap]] w (ReadPost w g X (readI e l A)) := by
  have hga := World.grownBy_alloc w (.cells #[.int .u8 (A.k.toNat : Int), .int .u64 (A.x : Int), .int .i64 A.n, .slice A.a A.len A.cap] 43) none
  have HR := Lib.hid (R.grown hga); have HGA := Lib.hid hga
  clear R hga
  unfold readI
  obtain ⟨q, hq⟩ : ∃ q, A.k.toNat % 5 = q := ⟨_, rfl⟩
  have hq5 : q < 5 := by omega
  have hqi : (A.k.toNat : Int) % 5 = (q : Int) := by omega
  rw [hq]
  clear hq
  rcases (show q = 0 ∨ q = 1 ∨ q = 2 ∨ q = 3 ∨ q = 4 by omega) with rfl | rfl | rfl | rfl | rfl
  · rw [if_neg (by decide), if_neg (by decide), if_neg (by decide)]
    go_enter Try.func19, Try.ntmps19
    go_wp2_with fail
    refine (wire_rnum HR.out A.n).mono ?_
    rintro r w1 ⟨rfl, hR, hg⟩
    have HR1 := Lib.hid hR; have HG1 := Lib.hid (grown_trans HGA.out hg)
    clear hR hg
    go_wp2_with fail
    go_ret2
    exact ⟨none, 0, 0, rfl, rfl, RX.nil _ _ _, HR1.out, HG1.out⟩
  · rw [if_pos rfl]
    have HW := Lib.hid (wrap_back (numR e l 8).1 (numR_lt e l 8))
    go_enter Try.func19, Try.ntmps19
    go_wp2_with fail
    refine (wire_rint HR.out).mono ?_
    rintro r w1 ⟨rfl, hR, hg⟩
    have HR1 := Lib.hid hR; have HG1 := Lib.hid (grown_trans HGA.out hg)
    clear hR hg
    have hw := HW.out
    go_wp2_with fail
    go_ret2
    exact ⟨none, 0, 0, rfl, rfl, RX.nil _ _ _, HR1.out, HG1.out⟩
  · rw [if_neg (by decide), if_pos rfl]
    obtain ⟨⟨t, e1, l1⟩, ht⟩ : ∃ t, boolR e l = t := ⟨_, rfl⟩
    have HC := Lib.hid (wire_rbool HR.out)
    rw [ht] at HC ⊢
    clear ht
    cases t
    all_goals
      simp only [if_true, Bool.false_eq_true, if_false]
      go_enter Try.func19, Try.ntmps19
      go_wp2_with fail
      refine HC.out.mono ?_
      rintro r w1 ⟨rfl, hR, hg⟩
      have HR1 := Lib.hid hR; have HG1 := Lib.hid (grown_trans HGA.out hg)
      clear hR hg
      go_wp2_with fail
      go_ret2
      exact ⟨none, 0, 0, rfl, rfl, RX.nil _ _ _, HR1.out, HG1.out⟩
  · rw [if_neg (by decide), if_neg (by decide), if_pos rfl]
    go_enter Try.func19, Try.ntmps19
    go_wp2_with fail
    refine (wire_rbytes HR.out A.n).mono ?_
    rintro r w1 ⟨a, n, c, rfl, hn, hx, hR, hg⟩
    have HN := Lib.hid hn; have HX := Lib.hid hx
    have HR1 := Lib.hid hR; have HG1 := Lib.hid (grown_trans HGA.out hg)
    clear hR hg hn hx
    go_wp2_with fail
    go_ret2
    exact ⟨a, n, c, rfl, HN.out, HX.out, HR1.out, HG1.out⟩
  · rw [if_neg (by decide), if_neg (by decide), if_neg (by decide)]
    go_enter Try.func19, Try.ntmps19
    go_wp2_with fail
    refine (wire_rnum HR.out A.n).mono ?_
    rintro r w1 ⟨rfl, hR, hg⟩
    have HR1 := Lib.hid hR; have HG1 := Lib.hid (grown_trans HGA.out hg)
    clear hR hg
    go_wp2_with fail
    go_ret2
    exact ⟨none, 0, 0, rfl, rfl, RX.nil _ _ _, HR1.out, HG1.out⟩

theorem results_tmp4 {fn : Func} {t u v x : Tmp} (h : fn.results = #[.tmp t, .tmp u, .tmp v, .tmp x]) (tmps : Array Value) (P : Program) (w : World) :
    (results fn tmps).run P w = .ok (.tuple #[tmps.getD t undef, tmps.getD u undef, tmps.getD v undef, tmps.getD x undef]) w := by
  simp [results, h]
def GotPost (w : World) (X : Nat → Prop) (t : Nat × List UInt8 × List UInt8 × Int) (e : Ending) (w' : World) : Prop :=
  ∃ q m d r n c, e = .returned (.tuple #[.int .u64 (t.1 : Int), .slice q m d, .slice r n c, .int .i64 t.2.2.2]) ∧ RS w' X q m d t.2.1 ∧ RS w' X r n c t.2.2.1 ∧ w.grownBy w' none

set_option maxHeartbeats 1600000 in
theorem wire_gotI {w : World} {X : Nat → Prop} {a : Option Addr} {len cap : Nat} {l : List UInt8} (R : RS w X a len cap l) (A : ItemV) :
    Calls Try.prog 20 #[.slice a len cap, .agg #[.int .u8 (A.k.toNat : Int), .int .u64 (A.x : Int), .int .i64 A.n, .slice A.a A.len A.cap]] w (GotPost w X (gotI l A)) := by
  have hga := World.grownBy_alloc w (.cells #[.int .u8 (A.k.toNat : Int), .int .u64 (A.x : Int), .int .i64 A.n, .slice A.a A.len A.cap] 43) none
  have HR := Lib.hid (R.grown hga); have HGA := Lib.hid hga
  clear R hga
  unfold gotI
  obtain ⟨q, hq⟩ : ∃ q, A.k.toNat % 5 = q := ⟨_, rfl⟩
  have hq5 : q < 5 := by omega
  have hqi : (A.k.toNat : Int) % 5 = (q : Int) := by omega
  rw [hq]
  clear hq
  rcases (show q = 0 ∨ q = 1 ∨ q = 2 ∨ q = 3 ∨ q = 4 by omega) with rfl | rfl | rfl | rfl | rfl
  · rw [if_neg (by decide), if_neg (by decide), if_neg (by decide)]
    go_enter Try.func20, Try.ntmps20
    go_wp2_with fail
    refine (ref_getnum a len cap l A.n _ HR.out).mono ?_
    rintro r w1 ⟨r1, n1, c1, rfl, hR, hg⟩
    have HR1 := Lib.hid hR; have HG1 := Lib.hid (grown_trans HGA.out hg)
    clear hR hg
    go_wp2_with fail
    try simp only [Exit.inBlock, Exit.then]
    refine bodyPost_ret (results_tmp4 rfl _ _ _) rfl ?_
    exact ⟨none, 0, 0, _, _, _, rfl, RS.none _ _, HR1.out, HG1.out⟩
  · rw [if_pos rfl]
    go_enter Try.func20, Try.ntmps20
    go_wp2_with fail
    refine (ref_getnum a len cap l 8 _ HR.out).mono ?_
    rintro r w1 ⟨r1, n1, c1, rfl, hR, hg⟩
    have HR1 := Lib.hid hR; have HG1 := Lib.hid (grown_trans HGA.out hg)
    clear hR hg
    go_wp2_with fail
    try simp only [Exit.inBlock, Exit.then]
    refine bodyPost_ret (results_tmp4 rfl _ _ _) rfl ?_
    exact ⟨none, 0, 0, _, _, _, rfl, RS.none _ _, HR1.out, HG1.out⟩
  · rw [if_neg (by decide), if_pos rfl]
    obtain ⟨⟨t, l1, e1⟩, ht⟩ : ∃ t, getBool l = t := ⟨_, rfl⟩
    have HC := Lib.hid (fun w R => ref_getbool (X := X) a len cap l w R)
    rw [ht] at HC ⊢
    clear ht
    cases t
    all_goals
      simp only [if_true, Bool.false_eq_true, if_false]
      go_enter Try.func20, Try.ntmps20
      go_wp2_with fail
      refine (HC.out _ HR.out).mono ?_
      rintro r w1 ⟨r1, n1, c1, rfl, hR, hg⟩
      have HR1 := Lib.hid hR; have HG1 := Lib.hid (grown_trans HGA.out hg)
      clear hR hg
      go_wp2_with fail
      try simp only [Exit.inBlock, Exit.then]
      refine bodyPost_ret (results_tmp4 rfl _ _ _) rfl ?_
      exact ⟨none, 0, 0, _, _, _, rfl, RS.none _ _, HR1.out, HG1.out⟩
  · rw [if_neg (by decide), if_neg (by decide), if_pos rfl]
    go_enter Try.func20, Try.ntmps20
    go_wp2_with fail
    refine (ref_getbytes a len cap l A.n _ HR.out).mono ?_
    rintro r w1 ⟨q1, m1, d1, r1, n1, c1, rfl, hQ, hR, hg⟩
    have HQ1 := Lib.hid hQ; have HR1 := Lib.hid hR; have HG1 := Lib.hid (grown_trans HGA.out hg)
    clear hQ hR hg
    go_wp2_with fail
    try simp only [Exit.inBlock, Exit.then]
    refine bodyPost_ret (results_tmp4 rfl _ _ _) rfl ?_
    exact ⟨_, _, _, _, _, _, rfl, HQ1.out, HR1.out, HG1.out⟩
  · rw [if_neg (by decide), if_neg (by decide), if_neg (by decide)]
    go_enter Try.func20, Try.ntmps20
    go_wp2_with fail
    refine (ref_getnum a len cap l A.n _ HR.out).mono ?_
    rintro r w1 ⟨r1, n1, c1, rfl, hR, hg⟩
    have HR1 := Lib.hid hR; have HG1 := Lib.hid (grown_trans HGA.out hg)
    clear hR hg
    go_wp2_with fail
    try simp only [Exit.inBlock, Exit.then]
    refine bodyPost_ret (results_tmp4 rfl _ _ _) rfl ?_
    exact ⟨none, 0, 0, _, _, _, rfl, RS.none _ _, HR1.out, HG1.out⟩

theorem ReaderAt.row {w w' : World} {g q : Nat} {X : Nat → Prop} {e : Int} {l : List UInt8} (R : ReaderAt w g X e l) (hg : w.grownBy w' (some q)) (hq : X q) (hne : q ≠ g) : ReaderAt w' g X e l := by
  obtain ⟨a, n, c, hb, h1, h2, h3, hr⟩ := R.box
  exact ⟨R.self, a, n, c, hb.kept hg (by simpa using hne), h1, h2, h3, hr.kept (Kept.of_row hg hq)⟩

def Reads1 (w : World) (X : Nat → Prop) (gr B1 n c1 : Nat) (b1 : Option Addr) (b : List UInt8) (v i : Value) (wr : World) : Prop :=
  ∃ (j : Nat) (L : List UInt8), j ≤ n ∧ i = .int .i64 j ∧ L.length = n ∧ OwnB wr B1 v L ∧ ReaderAt wr gr X 0 b ∧ RS wr (fun k => B1 ≤ k) b1 n c1 b ∧ w.grownBy wr none
def Reads2 (w : World) (X : Nat → Prop) (gr B1 len2 : Nat) (vr ve i : Value) (wr : World) : Prop :=
  ∃ (k : Nat) (e : Int) (l : List UInt8) (rr : Option Addr) (nr cr : Nat) (rest : List UInt8), k ≤ len2 ∧ i = .int .i64 k ∧ vr = .slice rr nr cr ∧ ve = .int .i64 e ∧ ReaderAt wr gr X e l ∧ RS wr (fun k => B1 ≤ k) rr nr cr rest ∧ Alike (e, l) rest ∧ w.grownBy wr none

set_option maxRecDepth 100000 in
set_option maxHeartbeats 3200000 in
theorem reads_walk (a : Option Addr) (len cap : Nat) (l : List UInt8) (a2 : Option Addr) (len2 cap2 : Nat) (A : Nat → ItemV) (w : World) (hb : InB w a len cap l) (hl : len2 ≤ maxLen) (hA : ∀ i, i < len2 → ItemAt w a2 i (A i)) :
    Calls Try.prog 4 #[.slice a len cap, .slice a2 len2 cap2] w fun r w' => r = .returned (.bool true) ∧ Below w.heap.size w w' := by
  obtain ⟨n, hn, hnk, hnc, hmin⟩ := min_any len 400 (by decide)
  obtain ⟨hbl, hbr, hbc⟩ := hb.cut hn
  have h1 := hb.cap_le
  generalize l.take n = b at *
  have HBL := Lib.hid hbl; have HBR := Lib.hid hbr
  have HA := Lib.hid hA
  have hn400 : n ≤ 400 := by omega
  have hmax : maxLen = 9223372036854775807 := rfl
  rw [hmax] at hl
  clear hbl hbr hb hnc hnk hA hmax
  have i0 : (0 : Int) ≤ (n : Int) := by omega
  have i1 : (n : Int) ≤ (len : Int) := by omega
  have i2 : (n : Int) ≤ (cap : Int) := by omega
  go_enter Try.func4, Try.ntmps4
  go_wp2_with (at_builtin; refine wpList_append_bytes2 (o := ⟨some 23, _, _, _, _, _⟩) rfl _ _ rfl w.heap.size _ [] rfl (OwnB.made w #[] 0 (by simp [maxLen]) rfl) a _ cap b rfl (HBR.out.alloc _) HBL.out (by simp; omega) (by simp) ?_)
  intro v1 w1 ho hg _
  obtain ⟨b1, n1, c1, rfl, hn1⟩ := ho.len
  have hn1' : n1 = n := by rw [← hn1]; exact HBL.out
  subst hn1'
  have HO1 := Lib.hid (RB.of_own ho); have HG1 := Lib.hid (grown_new (World.grownBy_alloc w _ none) (Nat.le_refl _) hg)
  have HS1 := Lib.hid (show n1 ≤ c1 ∧ c1 ≤ maxLen by
    rcases ho.2 with ⟨hv, _⟩ | ⟨q, cp, cur, hv, _, _, hnc, hcm, _⟩
    · cases hv; exact ⟨Nat.le_refl _, by simp [maxLen]⟩
    · cases hv; exact ⟨hnc, hcm⟩)
  clear ho hg hn1 hmin i1 i2
  by_cases h30 : (30 : Int) < (len2 : Int)
  · go_wp2_with fail
    refine (wire_works w1).mono ?_
    rintro r w2 ⟨rfl, hg⟩
    have HG2 := Lib.hid (grown_trans HG1.out hg)
    clear hg
    go_wp2_with fail
    go_ret
    exact ⟨rfl, grown_below HG2.out⟩
  go_wp2_with (at_builtin; refine wpList_append_bytes2 (o := ⟨some 30, _, _, _, _, _⟩) rfl _ _ rfl w1.heap.size _ [] rfl (OwnB.made w1 #[] 0 (by simp [maxLen]) rfl) b1 _ c1 b rfl (HO1.out.alloc _) HBL.out (by simp; omega) (by simp) ?_)
  intro v2 w2 ho hg _
  obtain ⟨a3, n3, c3, rfl, hn3⟩ := ho.len
  have hn3' : n3 = n1 := by rw [← hn3]; exact HBL.out
  subst hn3'
  have hg12 := grown_new (World.grownBy_alloc w1 _ none) (Nat.le_refl _) hg
  have HO2 := Lib.hid (show OwnB w2 w1.heap.size (.slice a3 n3 c3) b from ho); have HG2 := Lib.hid (grown_trans HG1.out hg12)
  have HRS2 := Lib.hid (show RS w2 (fun k => w1.heap.size ≤ k) b1 n3 c1 b from ⟨HBL.out, HS1.out.1, HS1.out.2, (RX.of_rb HO1.out (fun ad h hne => by
    obtain ⟨_, _, e, hc⟩ := HO1.out 0 (by rcases b with _ | ⟨y, ys⟩; exact absurd rfl hne; simp)
    subst e
    cases h
    have := World.block_lt_of_cell? w1 _ hc
    simp only at this ⊢
    omega)).kept (Kept.of_grown hg12)⟩)
  have HSZ := Lib.hid hg12.size
  have HSZ1 := Lib.hid HG1.out.size
  clear ho hg hn3 hg12 HO1 HS1
  generalize w1.heap.size = B1 at *
  clear HG1
  go_wp2_with fail
  refine (wire_read a3 n3 c3 b w2 HBL.out (RB.of_own HO2.out) (by omega)).mono ?_
  rintro r w3 ⟨gr, rfl, hge, hR, hg⟩
  have HR3 := Lib.hid hR; have HG3 := Lib.hid (grown_trans HG2.out hg); have HGE := Lib.hid hge
  have HO3 := Lib.hid (HO2.out.kept hg (Classical.em _)); have HRS3 := Lib.hid (HRS2.out.grown hg)
  have HLT := Lib.hid (show ∀ q, (Value.slice a3 n3 c3).ownBlock = some q → B1 ≤ q ∧ q < w2.heap.size from HO2.out.lt)
  clear hR hg hge HO2 HRS2 HG2
  go_wp2_with fail
  obtain ⟨w9, hw9⟩ : ∃ w9, w9 = w3 := ⟨_, rfl⟩
  subst hw9
  have hlg : B1 ≤ gr := Nat.le_trans HSZ.out HGE.out
  have HX := Lib.hid (show ∀ q, q < w2.heap.size → OutX w2.heap.size gr q from fun q h => .inl h)
  generalize OutX w2.heap.size gr = X at *
  generalize w2.heap.size = B2 at *
  have HLG := Lib.hid hlg
  clear hlg
  go_loopw [36] (fun i wr => Reads1 w X gr B1 n3 c1 b1 b (.slice a3 n3 c3) i wr) (fun i _ => n3 - (intOf i).toNat)
  case atStart => exact ⟨0, b, Nat.zero_le _, rfl, HBL.out, HO3.out, HR3.out, HRS3.out, HG3.out⟩
  case round =>
    obtain ⟨j, L, hj, rfl, hL, hO, hR, hS, hg⟩ := hrel
    have HL := Lib.hid hL; have HO := Lib.hid hO; have HR := Lib.hid hR; have HS := Lib.hid hS; have HG := Lib.hid hg
    clear hL hO hR hS hg HO3 HR3 HRS3 HG3
    by_cases hlt : j < n3
    · obtain ⟨q, rfl, hc, hf, hq, hset⟩ := HO.out.at j (by rw [HL.out]; exact hlt)
      have HSET := Lib.hid hset
      obtain ⟨u, hu⟩ : ∃ u, L[j]'(by rw [HL.out]; exact hlt) = u := ⟨_, rfl⟩
      rw [hu] at hc
      have hc' : wr.cell? ⟨q, j, none⟩ = some (.int .u8 (u.toNat : Int)) := hc
      obtain ⟨x, hx⟩ : ∃ x : UInt8, IntKind.u8.wrap ((u.toNat : Int) + 1) = (x.toNat : Int) := ⟨UInt8.ofNat (u.toNat + 1), by
        simp [IntKind.wrap, IntKind.signed, IntKind.bits]⟩
      have hq2 := (HLT.out q rfl).2
      have i3 : (0 : Int) ≤ (j : Int) := by omega
      have i4 : (j : Int) < (n3 : Int) := by omega
      have HQ := Lib.hid hq; have HQ2 := Lib.hid hq2
      clear hset hc hu hq hq2
      go_wp2_with fail
      have hgs := grown_setCell wr q j (bval x)
      exact ⟨⟨j + 1, L.set j x, by omega, by go_num, by rw [List.length_set]; exact HL.out, HSET.out x, HR.out.row hgs (HX.out q HQ2.out) (by have := HQ2.out; have := HGE.out; omega), HS.out.kept (Kept.of_row hgs HQ.out), grown_new HG.out (by have := HSZ1.out; have := HQ.out; omega) hgs⟩, by simp only [intOf]; omega⟩
    · obtain rfl : j = n3 := by omega
      clear HO HL
      go_wp2_with fail
      obtain ⟨w8, hw8⟩ : ∃ w8, w8 = wr := ⟨_, rfl⟩
      subst hw8
      have HLN2 := Lib.hid hl
      clear hl
      have hl9 : (len2 : Int) ≤ 30 := by omega
      go_loopw [7, 8, 10] (fun vr ve i wr => Reads2 w X gr B1 len2 vr ve i wr) (fun _ _ i _ => len2 - (intOf i).toNat)
      case atStart => exact ⟨0, 0, b, _, _, _, b, Nat.zero_le _, rfl, rfl, rfl, HR.out, HS.out, ⟨fun _ => rfl, fun h => absurd rfl h⟩, HG.out⟩
      case round =>
        obtain ⟨k, e, l2, rr, nr, cr, rest, hk, rfl, rfl, rfl, hR, hS, hAl, hg⟩ := hrel
        clear HR HS HG
        have HR := Lib.hid hR; have HS := Lib.hid hS; have HG := Lib.hid hg; have HAL := Lib.hid hAl
        clear hR hS hg hAl
        by_cases hlt : k < len2
        · obtain ⟨bb, o, rfl, c0, c1', c2, c3', hok⟩ := HA.out k hlt
          have d0 := grown_cell HG.out c0
          have d1 := grown_cell HG.out c1'
          have d2 := grown_cell HG.out c2
          have d3 := grown_cell HG.out c3'
          have HC0 := Lib.hid c0; have HC1 := Lib.hid c1'; have HC2 := Lib.hid c2; have HC3 := Lib.hid c3'
          clear c0 c1' c2 c3' hok
          have i5 : (0 : Int) ≤ (k : Int) := by omega
          have i6 : (k : Int) < (len2 : Int) := by omega
          have HGR := Lib.hid (show w.heap.size ≤ gr by have := HSZ1.out; have := HLG.out; omega)
          by_cases he : e = 0
          · subst he
            obtain rfl := HAL.out.1 rfl
            obtain ⟨e1, e2, e3, e4⟩ := read_alike l2 (A k)
            have HC := Lib.hid (wire_readI HR.out (A k))
            obtain ⟨⟨⟨x1, t1⟩, ⟨f1, l1⟩⟩, hrd⟩ : ∃ z, readI 0 l2 (A k) = z := ⟨_, rfl⟩
            obtain ⟨⟨x2, t2, s2, f2⟩, hgt⟩ : ∃ z, gotI l2 (A k) = z := ⟨_, rfl⟩
            rw [hrd, hgt] at e1 e2 e3 e4
            rw [hrd] at HC
            have HGT := Lib.hid hgt
            simp only at e1 e2 e3 e4
            subst e1 e2 e3
            have HE4 := Lib.hid e4
            clear hrd hgt e4
            go_wp2_with fail
            refine HC.out.mono ?_
            rintro r w4 ⟨a5, n5, c5, rfl, hn5, hx5, hR, hg⟩
            have HR4 := Lib.hid hR; have HG4 := Lib.hid (grown_new HG.out HGR.out hg); have HS4 := Lib.hid (HS.out.kept (Kept.of_row hg HLG.out))
            have HN5 := Lib.hid hn5; have HX5 := Lib.hid hx5.rb
            simp only at HR4 HN5 HX5
            clear hR hg hn5 hx5 HC HR HS HG
            have q0 := grown_cell HG4.out HC0.out
            have q1 := grown_cell HG4.out HC1.out
            have q2 := grown_cell HG4.out HC2.out
            have q3 := grown_cell HG4.out HC3.out
            clear d0 d1 d2 d3
            go_wp2_with fail
            have HC := Lib.hid (wire_gotI HS4.out (A k))
            rw [HGT.out] at HC
            refine HC.out.mono ?_
            rintro r w5 ⟨q5, m5, d5, r5, k5, c6, rfl, hQ, hS, hg⟩
            have HR5 := Lib.hid (HR4.out.grown hg); have HG5 := Lib.hid (grown_trans HG4.out hg); have HS5 := Lib.hid hS
            have s1 := string_bytes a5 n5 c5 t1 w5 (HX5.out.old (grown_below hg)) HN5.out
            have s2' := string_bytes q5 m5 d5 t1 w5 hQ.rx.rb hQ.len
            simp only at HS5
            clear hQ hS hg HC HR4 HS4 HG4 q0 q1 q2 q3
            go_wp2_with fail
            clear s1 s2'
            refine (wire_err HR5.out).mono ?_
            rintro r w6 ⟨rfl, rfl⟩
            have HL := Lib.hid (wire_left HR5.out)
            rw [left_alike HE4.out HS5.out.len] at HL
            go_wp2_with fail
            refine HL.out.mono ?_
            rintro r w6 ⟨rfl, rfl⟩
            go_wp2_with fail
            exact ⟨⟨k + 1, _, _, _, _, _, _, by omega, by go_num, rfl, rfl, HR5.out, HS5.out, HE4.out, HG5.out⟩, by simp only [intOf]; omega⟩
          · have he' : (e == 0) = false := by simpa using he
            have HC := Lib.hid (wire_readI HR.out (A k))
            rw [read_bad he] at HC
            go_wp2_with fail
            refine HC.out.mono ?_
            rintro r w5 ⟨a5, n5, c5, rfl, hn5, hx5, hR, hg⟩
            have hn5' : n5 = 0 := hn5.symm
            subst hn5'
            have HR5 := Lib.hid hR; have HG5 := Lib.hid (grown_new HG.out HGR.out hg); have HS5 := Lib.hid (HS.out.kept (Kept.of_row hg HLG.out))
            have HE4 := HAL
            simp only at HR5
            clear hR hg hn5 hx5 HC HR HS HG d0 d1 d2 d3
            go_wp2_with fail
            refine (wire_err HR5.out).mono ?_
            rintro r w6 ⟨rfl, rfl⟩
            have HL := Lib.hid (wire_left HR5.out)
            rw [left_alike HE4.out HS5.out.len] at HL
            go_wp2_with fail
            refine HL.out.mono ?_
            rintro r w6 ⟨rfl, rfl⟩
            go_wp2_with fail
            exact ⟨⟨k + 1, _, _, _, _, _, _, by omega, by go_num, rfl, rfl, HR5.out, HS5.out, HAL.out, HG5.out⟩, by simp only [intOf]; omega⟩
        · obtain rfl : k = len2 := by omega
          obtain ⟨z, hz⟩ : ∃ z, endR e l2 = z := ⟨_, rfl⟩
          have HEND := Lib.hid (wire_end HR.out)
          rw [hz] at HEND
          by_cases he : e = 0
          · subst he
            obtain rfl := HAL.out.1 rfl
            have hz' : z = if 0 < nr then 8 else 0 := by
              rw [← hz, ← HS.out.len]
              unfold endR
              cases l2 <;> simp
            clear hz
            by_cases hn : (0 : Int) < (nr : Int)
            · obtain rfl : z = 8 := by rw [hz', if_pos (by omega)]
              clear hz'
              go_wp2_with fail
              refine HEND.out.mono ?_
              rintro r w5 ⟨rfl, rfl⟩
              go_wp2_with fail
              refine (wire_works _).mono ?_
              rintro r w6 ⟨rfl, hg⟩
              have HG6 := Lib.hid (grown_trans HG.out hg)
              clear hg
              go_wp2_with fail
              go_ret
              exact ⟨rfl, grown_below HG6.out⟩
            · obtain rfl : z = 0 := by rw [hz', if_neg (by omega)]
              clear hz'
              go_wp2_with fail
              refine HEND.out.mono ?_
              rintro r w5 ⟨rfl, rfl⟩
              go_wp2_with fail
              refine (wire_works _).mono ?_
              rintro r w6 ⟨rfl, hg⟩
              have HG6 := Lib.hid (grown_trans HG.out hg)
              clear hg
              go_wp2_with fail
              go_ret
              exact ⟨rfl, grown_below HG6.out⟩
          · have he' : (e == 0) = false := by simpa using he
            obtain rfl : z = e := by rw [← hz]; unfold endR; rw [if_neg he]
            clear hz
            go_wp2_with fail
            refine HEND.out.mono ?_
            rintro r w5 ⟨rfl, rfl⟩
            go_wp2_with fail
            refine (wire_works _).mono ?_
            rintro r w6 ⟨rfl, hg⟩
            have HG6 := Lib.hid (grown_trans HG.out hg)
            clear hg
            go_wp2_with fail
            go_ret
            exact ⟨rfl, grown_below HG6.out⟩
end Go.Proofs.Ythpoccjlhcpoiaa
