/-
  WireBack: what is written, and read back.
-/
import Derived.Test.YthpoccjlhcpoiaaWirePut
namespace Go.Proofs.Ythpoccjlhcpoiaa
open Go.RowKit

/-- an item's bytes -/
def encI (A : ItemV) : List UInt8 :=
  if A.k.toNat % 5 = 0 then numB A.x A.n.toNat else
  if A.k.toNat % 5 = 1 then numB A.x 8 else
  if A.k.toNat % 5 = 2 then [if A.x % 2 == 1 then 1 else 0] else
  if A.k.toNat % 5 = 3 then numB A.b.length 2 ++ A.b else []
/-- an item can be written -/
def goodI (A : ItemV) : Prop := (A.k.toNat % 5 = 0 → 1 ≤ A.n ∧ A.n ≤ 8 ∧ A.x < 2 ^ (8 * A.n.toNat)) ∧ (A.k.toNat % 5 = 3 → A.b.length ≤ 65535)

theorem rawW_zero {most : Nat} {e : Int} {l b l' : List UInt8} (h : rawW most (e, l) b = (0, l')) : e = 0 ∧ l' = l ++ b := by
  unfold rawW at h
  split at h
  · rename_i h1
    simp only [Prod.mk.injEq] at h
    exact absurd h.1 h1
  · rename_i h1
    split at h
    · simp only [Prod.mk.injEq] at h
      exact absurd h.1 (by decide)
    · simp only [Prod.mk.injEq] at h
      exact ⟨by simpa using h1, h.2.symm⟩
theorem wrongW_zero {e n : Int} {l l' : List UInt8} (hn : n ≠ 0) (h : wrongW (e, l) n = (0, l')) : False := by
  unfold wrongW at h
  simp only [Prod.mk.injEq] at h
  obtain ⟨h, _⟩ := h
  split at h
  · exact hn h
  · contradiction
theorem numW_zero {most : Nat} {e : Int} {l l' : List UInt8} {x : Nat} {n : Int} (hx : x < 18446744073709551616) (h : numW most (e, l) x n = (0, l')) : e = 0 ∧ l' = l ++ numB x n.toNat ∧ 1 ≤ n ∧ n ≤ 8 ∧ x < 2 ^ (8 * n.toNat) := by
  unfold numW at h
  split at h
  · exact (wrongW_zero (by decide) h).elim
  · rename_i h1
    obtain ⟨h2, h3⟩ := rawW_zero h
    have hn1 : 1 ≤ n := by
      by_cases c : n < 1
      · exact absurd (.inl c) h1
      · omega
    have hn8 : n ≤ 8 := by
      by_cases c : 8 < n
      · exact absurd (.inr (.inl c)) h1
      · omega
    refine ⟨h2, h3, hn1, hn8, ?_⟩
    by_cases c : n < 8
    · have : x / 2 ^ (8 * n.toNat) = 0 := by
        by_cases d : x / 2 ^ (8 * n.toNat) = 0
        · exact d
        · exact absurd (.inr (.inr ⟨c, d⟩)) h1
      exact (Nat.div_eq_zero_iff.1 this).resolve_left (by have := Nat.pow_pos (n := 8 * n.toNat) (show 0 < 2 by decide); omega)
    · have : n.toNat = 8 := by omega
      rw [this]
      exact hx
theorem putW_zero {most : Nat} {e : Int} {l l' : List UInt8} {A : ItemV} (hx : A.x < 18446744073709551616) (h4 : A.k.toNat % 5 ≠ 4) (h : putW most (e, l) A = (0, l')) : e = 0 ∧ l' = l ++ encI A ∧ goodI A := by
  unfold putW at h
  unfold encI goodI
  have hq : A.k.toNat % 5 < 5 := by omega
  generalize A.k.toNat % 5 = q at *
  rcases (show q = 0 ∨ q = 1 ∨ q = 2 ∨ q = 3 by omega) with rfl | rfl | rfl | rfl
  · rw [if_pos rfl] at h
    obtain ⟨a, b, c⟩ := numW_zero hx h
    exact ⟨a, by simpa using b, by simpa using c⟩
  · rw [if_neg (by decide), if_pos rfl] at h
    obtain ⟨a, b, c⟩ := numW_zero hx h
    exact ⟨a, by simpa using b, by simp⟩
  · rw [if_neg (by decide), if_neg (by decide), if_pos rfl] at h
    obtain ⟨a, b⟩ := rawW_zero h
    exact ⟨a, by simpa using b, by simp⟩
  · rw [if_neg (by decide), if_neg (by decide), if_neg (by decide), if_pos rfl] at h
    unfold bytesW at h
    split at h
    · exact (wrongW_zero (by decide) h).elim
    · rename_i hb
      obtain ⟨a, b⟩ := rawW_zero h
      exact ⟨a, by simpa using b, by simp; omega⟩

/-- what is written of the first k items -/
def backW (A : Nat → ItemV) : Nat → Int × List UInt8
  | 0 => (0, [])
  | k + 1 => if (A k).k.toNat % 5 = 4 then backW A k else putW 20000 (backW A k) (A k)
/-- the bytes of the items from the k-th on, j of them -/
def encsI (A : Nat → ItemV) (k : Nat) : Nat → List UInt8
  | 0 => []
  | j + 1 => encI (A k) ++ encsI A (k + 1) j
theorem encsI_snoc (A : Nat → ItemV) (j : Nat) : ∀ k, encsI A k (j + 1) = encsI A k j ++ encI (A (k + j)) := by
  induction j with
  | zero => intro k; simp [encsI]
  | succ j ih =>
    intro k
    rw [encsI, ih, encsI, List.append_assoc, show k + 1 + j = k + (j + 1) by omega]
theorem backW_zero (A : Nat → ItemV) (n : Nat) (hx : ∀ i, i < n → (A i).x < 18446744073709551616) : ∀ k l, k ≤ n → backW A k = (0, l) → l = encsI A 0 k ∧ ∀ i, i < k → goodI (A i) := by
  intro k
  induction k with
  | zero =>
    intro l _ h
    simp only [backW, Prod.mk.injEq] at h
    exact ⟨h.2.symm, fun i hi => by omega⟩
  | succ k ih =>
    intro l hk h
    rw [encsI_snoc, Nat.zero_add]
    rw [backW] at h
    by_cases h4 : (A k).k.toNat % 5 = 4
    · rw [if_pos h4] at h
      obtain ⟨h1, h2⟩ := ih l (by omega) h
      refine ⟨by rw [show encI (A k) = [] by simp [encI, h4], List.append_nil]; exact h1, fun i hi => ?_⟩
      rcases Nat.lt_succ_iff_lt_or_eq.1 hi with h | rfl
      · exact h2 i h
      · simp [goodI, h4]
    · rw [if_neg h4] at h
      obtain ⟨⟨e, l1⟩, he⟩ : ∃ t, backW A k = t := ⟨_, rfl⟩
      rw [he] at h
      obtain ⟨rfl, rfl, hg⟩ := putW_zero (hx k (by omega)) h4 h
      obtain ⟨h1, h2⟩ := ih l1 (by omega) he
      refine ⟨by rw [h1], fun i hi => ?_⟩
      rcases Nat.lt_succ_iff_lt_or_eq.1 hi with h | rfl
      · exact h2 i h
      · exact hg

def BackRel (w : World) (A : Nat → ItemV) (gw len : Nat) (i : Value) (wr : World) : Prop :=
  ∃ (k : Nat) (e : Int) (v : Value) (l : List UInt8), k ≤ len ∧ i = .int .i64 k ∧ WriterAt wr gw e v l 20000 ∧ backW A k = (e, l) ∧ w.grownBy wr none
def BackRel2 (w : World) (A : Nat → ItemV) (X : Nat → Prop) (gr len : Nat) (i : Value) (wr : World) : Prop :=
  ∃ (k : Nat), k ≤ len ∧ i = .int .i64 k ∧ ReaderAt wr gr X 0 (encsI A k (len - k)) ∧ w.grownBy wr none

set_option maxHeartbeats 3200000 in
theorem back_walk (a : Option Addr) (len cap : Nat) (A : Nat → ItemV) (w : World) (hl : len ≤ maxLen) (hA : ∀ i, i < len → ItemAt w a i (A i)) :
    Calls Try.prog 5 #[.slice a len cap] w fun r w' => r = .returned (.bool true) ∧ Below w.heap.size w w' := by
  have HA := Lib.hid hA
  have hmax : maxLen = 9223372036854775807 := rfl
  rw [hmax] at hl
  have HF := Lib.hid (wire_few w a len cap A (by rw [hmax]; exact hl) hA)
  have HX := Lib.hid (fun i (hi : i < len) => by obtain ⟨_, _, _, _, _, _, _, hok⟩ := hA i hi; exact hok.x)
  clear hA hmax
  go_enter Try.func5, Try.ntmps5
  go_wp2_with fail
  refine HF.out.mono ?_
  rintro r w1 ⟨f, rfl, hg, hf⟩
  have HG1 := Lib.hid hg
  clear hg
  cases f
  · clear hf
    go_wp2_with fail
    refine (wire_works w1).mono ?_
    rintro r w2 ⟨rfl, hg⟩
    have HG2 := Lib.hid (grown_trans HG1.out hg)
    clear hg
    go_wp2_with fail
    go_ret
    exact ⟨rfl, grown_below HG2.out⟩
  obtain ⟨h30, h300⟩ := hf rfl
  have H3 := Lib.hid h300
  clear hf h300
  go_wp2_with fail
  refine (wire_new 20000 20000 rfl w1).mono ?_
  rintro r w2 ⟨rfl, hW, hg⟩
  have HW2 := Lib.hid hW; have HG2 := Lib.hid (grown_trans HG1.out hg)
  have HGW := Lib.hid HG1.out.size
  clear hW hg
  generalize w1.heap.size = gw at *
  clear HG1
  go_wp2_with fail
  obtain ⟨w9, hw9⟩ : ∃ w9, w9 = w2 := ⟨_, rfl⟩
  subst hw9
  go_loopw [4] (fun i wr => BackRel w A gw len i wr) (fun i _ => len - (intOf i).toNat)
  case atStart => exact ⟨0, 0, _, [], Nat.zero_le _, rfl, HW2.out, rfl, HG2.out⟩
  case round =>
    obtain ⟨k, e, v, l, hk, rfl, hW, hB, hg⟩ := hrel
    have HW := Lib.hid hW; have HB := Lib.hid hB; have HG := Lib.hid hg
    clear hW hB hg
    by_cases hlt : k < len
    · obtain ⟨b, o, rfl, c0, c1, c2, c3, hok⟩ := HA.out k hlt
      have d0 := grown_cell HG.out c0
      have d1 := grown_cell HG.out c1
      have d2 := grown_cell HG.out c2
      have d3 := grown_cell HG.out c3
      have HOK := Lib.hid hok
      clear c0 c1 c2 c3 hok
      have i0 : (0 : Int) ≤ (k : Int) := by omega
      have i1 : (k : Int) < (len : Int) := by omega
      by_cases h4 : (A k).k.toNat % 5 = 4
      · have hf : (((A k).k.toNat : Int) % 5 != 4) = false := by simp; omega
        go_wp2_with fail
        exact ⟨⟨k + 1, e, v, l, by omega, by go_num, HW.out, by rw [backW, if_pos h4]; exact HB.out, HG.out⟩, by simp only [intOf]; omega⟩
      · have hf : (((A k).k.toNat : Int) % 5 != 4) = true := by simp; omega
        go_wp2_with fail
        refine (wire_put HW.out (A k) ⟨HOK.out.inb.len_eq, HOK.out.inb.cap_le, HOK.out.inb.max, HOK.out.inb.nil, HOK.out.inb.reads.old (grown_below HG.out)⟩ HOK.out.x (Room.of (by decide))).mono ?_
        rintro r w3 ⟨rfl, v3, hW, hk3⟩
        have HW3 := Lib.hid hW; have HG3 := Lib.hid (hk3.none HG.out HGW.out HW.out)
        clear hW hk3
        go_wp2_with fail
        exact ⟨⟨k + 1, _, _, _, by omega, by go_num, HW3.out, by rw [backW, if_neg h4, HB.out], HG3.out⟩, by simp only [intOf]; omega⟩
    · obtain rfl : k = len := by omega
      go_wp2_with fail
      refine (wire_done HW.out (Room.of (by decide))).mono ?_
      rintro r w3 ⟨a3, n3, c3, rfl, hn, hrb, _, hg⟩
      have HG3 := Lib.hid (grown_trans HG.out hg)
      clear hg
      by_cases he : e = 0
      · subst he
        rw [if_pos rfl] at hn
        obtain ⟨hlb, hgood⟩ := backW_zero A k HX.out k l (Nat.le_refl _) HB.out
        have HR3 := Lib.hid (hrb rfl)
        have HN3 := Lib.hid hn.symm
        have HGD := Lib.hid hgood
        have HFIT := Lib.hid HW.out.fit
        clear hn hrb hgood
        go_wp2_with fail
        refine (wire_read a3 n3 c3 l w3 HN3.out HR3.out (by have := HN3.out; have := HFIT.out; omega)).mono ?_
        rintro r w4 ⟨gr, rfl, hge, hR, hg⟩
        rw [hlb] at hR
        have HR4 := Lib.hid hR; have HG4 := Lib.hid (grown_trans HG3.out hg); have HGR := Lib.hid (Nat.le_trans HG3.out.size hge)
        clear hR hg hge
        generalize OutX w3.heap.size gr = X at *
        clear HR3 HN3 HB HW HG HG3 HFIT hlb
        go_wp2_with fail
        obtain ⟨w8, hw8⟩ : ∃ w8, w8 = w4 := ⟨_, rfl⟩
        subst hw8
        go_loopw [8] (fun i wr => BackRel2 w A X gr k i wr) (fun i _ => k - (intOf i).toNat)
        case atStart => exact ⟨0, Nat.zero_le _, rfl, HR4.out, HG4.out⟩
        case round =>
          obtain ⟨j, hj, rfl, hR, hg⟩ := hrel
          have HR := Lib.hid hR; have HG := Lib.hid hg
          clear hR hg HR4 HG4
          by_cases hlt : j < k
          · obtain ⟨b, o, rfl, c0, c1, c2, c3, hok⟩ := HA.out j hlt
            have d0 := grown_cell HG.out c0
            have d1 := grown_cell HG.out c1
            have d2 := grown_cell HG.out c2
            have d3 := grown_cell HG.out c3
            have HOK := Lib.hid hok
            have hgd := HGD.out j hlt
            clear c0 c1 c2 c3 hok
            have i0 : (0 : Int) ≤ (j : Int) := by omega
            have i1 : (j : Int) < (k : Int) := by omega
            have henc : encsI A j (k - j) = encI (A j) ++ encsI A (j + 1) (k - (j + 1)) := by rw [show k - j = (k - (j + 1)) + 1 by omega, encsI]
            rw [henc] at HR
            clear henc
            obtain ⟨rest, hrest⟩ : ∃ rest, encsI A (j + 1) (k - (j + 1)) = rest := ⟨_, rfl⟩
            rw [hrest] at HR
            have HREST := Lib.hid hrest
            clear hrest
            have hga := World.grownBy_alloc wr (.cells #[.int .u8 ((A j).k.toNat : Int), .int .u64 ((A j).x : Int), .int .i64 (A j).n, .slice (A j).a (A j).len (A j).cap] 43) none
            have HRA := Lib.hid (HR.out.grown hga)
            have HGA := Lib.hid (grown_trans HG.out hga)
            have HBX := Lib.hid (Box.new wr 43 [.int .u8 ((A j).k.toNat : Int), .int .u64 ((A j).x : Int), .int .i64 (A j).n, .slice (A j).a (A j).len (A j).cap] wr.heap.size rfl)
            obtain ⟨_, _, _, hbx, _⟩ := HR.out.box
            have HLT := Lib.hid (show some gr ≠ some wr.heap.size by have := hbx.lt; simp; omega)
            clear hga hbx
            obtain ⟨q, hq⟩ : ∃ q, (A j).k.toNat % 5 = q := ⟨_, rfl⟩
            have hq5 : q < 5 := by omega
            have hqi : ((A j).k.toNat : Int) % 5 = (q : Int) := by omega
            unfold encI at HRA
            unfold goodI at hgd
            rw [hq] at HRA hgd
            clear hq
            rcases (show q = 0 ∨ q = 1 ∨ q = 2 ∨ q = 3 ∨ q = 4 by omega) with rfl | rfl | rfl | rfl | rfl
            · rw [if_pos rfl] at HRA
              obtain ⟨hn1, hn8, hx8⟩ := hgd.1 rfl
              have hx : numR 0 (numB (A j).x (A j).n.toNat ++ rest) (A j).n = ((A j).x, 0, rest) := by
                have := numR_app (A j).x (A j).n.toNat (by omega) (by omega) hx8 rest
                rwa [show (((A j).n.toNat : Nat) : Int) = (A j).n by omega] at this
              go_wp2_with fail
              generalize wr.alloc (.cells #[.int .u8 ((A j).k.toNat : Int), .int .u64 ((A j).x : Int), .int .i64 (A j).n, .slice (A j).a (A j).len (A j).cap] 43) = wa at *
              generalize wr.heap.size = bx at *
              clear d0 d1 d2 d3 HR HG
              have HRD := Lib.hid (HRA.out.grown (grown_drew1 wa)); have HGD2 := Lib.hid (grown_trans HGA.out (grown_drew1 wa))
              have HBD := Lib.hid HBX.out.drew
              have e1 := HBD.out.cell 1 rfl
              have e2 := HBD.out.cell 2 rfl
              have e3 := HBD.out.cell 3 rfl
              have hc := wire_rnum HRD.out (A j).n
              rw [hx] at hc
              have HCALL := Lib.hid hc
              clear hn1 hn8 hx8 hx hc
              go_region_held_law (fun w' => w'.cell? ⟨bx, 1, none⟩ = some (.int .u64 ((A j).x : Int)) ∧ w'.cell? ⟨bx, 2, none⟩ = some (.int .i64 (A j).n))
                (first | (refine ⟨?_, ?_⟩ <;> assumption) | assumption | fail)
                (first | (go_at_call 15; refine HCALL.out.mono ?_; rintro e w5 ⟨rfl, hR5, hg5⟩; have b5 := HBD.out.kept hg5 HLT.out; have q1 := b5.cell 1 rfl; have q2 := b5.cell 2 rfl))
              have HR5 := Lib.hid hR5; have HG5 := Lib.hid (grown_new HGD2.out HGR.out hg5)
              clear hR5 hg5 b5 q1 q2
              go_wp2_with fail
              exact ⟨⟨j + 1, by omega, by go_num, by rw [HREST.out]; exact HR5.out, HG5.out⟩, by simp only [intOf]; omega⟩
            · rw [if_neg (by decide), if_pos rfl] at HRA
              go_wp2_with fail
              generalize wr.alloc (.cells #[.int .u8 ((A j).k.toNat : Int), .int .u64 ((A j).x : Int), .int .i64 (A j).n, .slice (A j).a (A j).len (A j).cap] 43) = wa at *
              generalize wr.heap.size = bx at *
              clear d0 d1 d2 d3 HR HG
              have HRD := Lib.hid (HRA.out.grown (grown_drew1 wa)); have HGD2 := Lib.hid (grown_trans HGA.out (grown_drew1 wa))
              have HBD := Lib.hid HBX.out.drew
              have e1 := HBD.out.cell 1 rfl
              have e2 := HBD.out.cell 2 rfl
              have e3 := HBD.out.cell 3 rfl
              have hc := wire_rint HRD.out
              rw [show numR 0 (numB (A j).x 8 ++ rest) 8 = ((A j).x, 0, rest) from numR_app (A j).x 8 (by omega) (by omega) HOK.out.x rest] at hc
              have HCALL := Lib.hid hc
              clear hc
              go_region_held_law (fun w' => w'.cell? ⟨bx, 1, none⟩ = some (.int .u64 ((A j).x : Int)))
                (first | (refine ⟨?_⟩ <;> assumption) | assumption | fail)
                (first | (go_at_call 25; refine HCALL.out.mono ?_; rintro e w5 ⟨rfl, hR5, hg5⟩; have b5 := HBD.out.kept hg5 HLT.out; have q1 := b5.cell 1 rfl))
              have HR5 := Lib.hid hR5; have HG5 := Lib.hid (grown_new HGD2.out HGR.out hg5)
              clear hR5 hg5 b5 q1
              have hw64 : (wrap64 ((A j).x : Int) != IntKind.i64.wrap ((A j).x : Int)) = false := by simp [IntKind.wrap, IntKind.signed, IntKind.bits, wrap64]; omega
              go_wp2_with fail
              exact ⟨⟨j + 1, by omega, by go_num, by rw [HREST.out]; exact HR5.out, HG5.out⟩, by simp only [intOf]; omega⟩
            · rw [if_neg (by decide), if_neg (by decide), if_pos rfl] at HRA
              obtain ⟨tb, htb⟩ : ∃ tb, ((A j).x % 2 == 1) = tb := ⟨_, rfl⟩
              have hbi : (((A j).x : Int) % 2 == 1) = tb := by rw [← htb, Bool.eq_iff_iff]; simp only [beq_iff_eq]; omega
              rw [htb] at HRA
              clear htb
              go_wp2_with fail
              generalize wr.alloc (.cells #[.int .u8 ((A j).k.toNat : Int), .int .u64 ((A j).x : Int), .int .i64 (A j).n, .slice (A j).a (A j).len (A j).cap] 43) = wa at *
              generalize wr.heap.size = bx at *
              clear d0 d1 d2 d3 HR HG
              have HRD := Lib.hid (HRA.out.grown (grown_drew1 wa)); have HGD2 := Lib.hid (grown_trans HGA.out (grown_drew1 wa))
              have HBD := Lib.hid HBX.out.drew
              have e1 := HBD.out.cell 1 rfl
              have e2 := HBD.out.cell 2 rfl
              have e3 := HBD.out.cell 3 rfl
              have hc := wire_rbool HRD.out
              rw [show boolR 0 ([if tb = true then 1 else 0] ++ rest) = (tb, 0, rest) from boolR_app tb rest] at hc
              have HCALL := Lib.hid hc
              clear hc
              go_region_held_law (fun w' => w'.cell? ⟨bx, 1, none⟩ = some (.int .u64 ((A j).x : Int)))
                (first | (refine ⟨?_⟩ <;> assumption) | assumption | fail)
                (first | (go_at_call 11; refine HCALL.out.mono ?_; rintro e w5 ⟨rfl, hR5, hg5⟩; have b5 := HBD.out.kept hg5 HLT.out; have q1 := b5.cell 1 rfl))
              have HR5 := Lib.hid hR5; have HG5 := Lib.hid (grown_new HGD2.out HGR.out hg5)
              clear hR5 hg5 b5 q1
              have hbm : (!tb == (((A j).x : Int).tmod 2 == 1)) = false := by rw [Int.tmod_eq_emod_of_nonneg (by omega), hbi]; cases tb <;> rfl
              clear hbi
              go_wp2_with fail
              · rename_i hh
                exact absurd (hbm.symm.trans hh) (by decide)
              exact ⟨⟨j + 1, by omega, by go_num, by rw [HREST.out]; exact HR5.out, HG5.out⟩, by simp only [intOf]; omega⟩
            · rw [if_neg (by decide), if_neg (by decide), if_neg (by decide), if_pos rfl] at HRA
              have hb8 := hgd.2 rfl
              go_wp2_with fail
              generalize wr.alloc (.cells #[.int .u8 ((A j).k.toNat : Int), .int .u64 ((A j).x : Int), .int .i64 (A j).n, .slice (A j).a (A j).len (A j).cap] 43) = wa at *
              generalize wr.heap.size = bx at *
              clear d0 d1 d2 d3 HR HG
              have HRD := Lib.hid (HRA.out.grown (grown_drew1 wa)); have HGD2 := Lib.hid (grown_trans HGA.out (grown_drew1 wa))
              have HBD := Lib.hid HBX.out.drew
              have e1 := HBD.out.cell 1 rfl
              have e2 := HBD.out.cell 2 rfl
              have e3 := HBD.out.cell 3 rfl
              have hc := wire_rbytes HRD.out ((A j).len : Int)
              rw [bytesR_app (A j).b rest hb8 _ (by rw [HOK.out.inb.len_eq]; exact Int.le_refl _)] at hc
              have HCALL := Lib.hid hc
              clear hc hb8
              have k0 := string_bytes (A j).a (A j).len (A j).cap (A j).b wa.drew (HOK.out.inb.reads.old (grown_below HGD2.out)) HOK.out.inb.len_eq
              go_region_held_law (fun w' => w'.cell? ⟨bx, 3, none⟩ = some (.slice (A j).a (A j).len (A j).cap) ∧ (convert 22 9 (.slice (A j).a (A j).len (A j).cap)).run Try.prog w' = .ok (.string (strB (A j).b)) w')
                (first | (refine ⟨?_, ?_⟩ <;> assumption) | fail)
                (first | (go_at_call 13; refine HCALL.out.mono ?_; rintro e w5 ⟨a5, n5, c5, rfl, hn5, hx5, hR5, hg5⟩; have b5 := HBD.out.kept hg5 HLT.out; have q3 := b5.cell 3 rfl; have k4 := string_bytes a5 n5 c5 (A j).b w5 hx5.rb hn5; have k5 := string_bytes (A j).a (A j).len (A j).cap (A j).b w5 (HOK.out.inb.reads.old (grown_below (grown_new HGD2.out HGR.out hg5))) HOK.out.inb.len_eq))
              have HR5 := Lib.hid hR5; have HG5 := Lib.hid (grown_new HGD2.out HGR.out hg5)
              clear hR5 hg5 b5 q3 hn5 hx5
              go_wp2_with fail
              exact ⟨⟨j + 1, by omega, by go_num, by rw [HREST.out]; exact HR5.out, HG5.out⟩, by simp only [intOf]; omega⟩
            · rw [if_neg (by decide), if_neg (by decide), if_neg (by decide), if_neg (by decide), List.nil_append] at HRA
              go_wp2_with fail
              exact ⟨⟨j + 1, by omega, by go_num, by rw [HREST.out]; exact HRA.out, HGA.out⟩, by simp only [intOf]; omega⟩
          · obtain rfl : j = k := by omega
            go_wp2_with fail
            rw [Nat.sub_self, encsI] at HR
            refine (wire_end HR.out).mono ?_
            rw [show endR 0 [] = 0 from rfl]
            rintro r w5 ⟨rfl, rfl⟩
            go_wp2_with fail
            refine (wire_works _).mono ?_
            rintro r w5 ⟨rfl, hg⟩
            have HG5 := Lib.hid (grown_trans HG.out hg)
            clear hg
            go_wp2_with fail
            go_ret
            exact ⟨rfl, grown_below HG5.out⟩
      · clear hrb hn
        have he' : (e != 0) = true := by simp [he]
        go_wp2_with fail
        refine (wire_works w3).mono ?_
        rintro r w5 ⟨rfl, hg⟩
        have HG5 := Lib.hid (grown_trans HG3.out hg)
        clear hg
        go_wp2_with fail
        go_ret
        exact ⟨rfl, grown_below HG5.out⟩
end Go.Proofs.Ythpoccjlhcpoiaa
