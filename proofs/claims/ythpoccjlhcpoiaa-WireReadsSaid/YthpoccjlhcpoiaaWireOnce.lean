/-
  WireOnce: what is read, and written again.
-/
import Derived.Test.YthpoccjlhcpoiaaWireWorks
namespace Go.Proofs.Ythpoccjlhcpoiaa
open Go.RowKit

theorem WriterAt.row_kept {w w' : World} {g h : Nat} {e : Int} {v : Value} {l : List UInt8} {most : Nat} (W : WriterAt w g e v l most) (hg : w.grownBy w' (some h)) (hh : h < g) : WriterAt w' g e v l most :=
  ⟨W.box.kept hg (by simp; omega), W.row.kept hg (.inr (W.row.ne (by omega))), W.fit⟩
theorem ReaderAt.grown {w w' : World} {g : Nat} {X : Nat → Prop} {e : Int} {l : List UInt8} (R : ReaderAt w g X e l) (h : w.grownBy w' none) : ReaderAt w' g X e l := by
  obtain ⟨a, n, c, hb, h1, h2, h3, hr⟩ := R.box
  exact ⟨R.self, a, n, c, hb.grown h, h1, h2, h3, hr.kept (Kept.of_grown h)⟩
theorem ReaderAt.wrote {w w' : World} {g gw : Nat} {X : Nat → Prop} {e e' : Int} {l l' : List UInt8} {v v' : Value} {most : Nat} (R : ReaderAt w g X e l) (W : WriterAt w gw e' v l' most) (k : Wrote w gw v w' v') (hlt : g < gw) (hX : ∀ q, gw ≤ q → X q) : ReaderAt w' g X e l := by
  obtain ⟨a, n, c, hb, h1, h2, h3, hr⟩ := R.box
  have hsub : ∀ q, (q = gw ∨ v.ownBlock = some q) → gw ≤ q := by
    rintro q (h | h)
    · omega
    · have := (W.row.lt q h).1; omega
  refine ⟨R.self, a, n, c, hb.keptX k.kept (fun h => by have := hsub g h; omega), h1, h2, h3, ?_⟩
  intro i hi
  obtain ⟨b, o, e, hx, hc⟩ := hr i hi
  exact ⟨b, o, e, hx, (World.cell?_of_block (a := ⟨b, o + i, none⟩) (k.kept.block b (World.block_lt_of_cell? w _ hc) (fun h => hx (hX b (hsub b h))))).trans hc⟩

/-- what holds ahead of each round -/
def OnceInv (b : List UInt8) (e : Int) (l : List UInt8) (e' : Int) (l' : List UInt8) : Prop := e = 0 → e' = 0 ∧ l' ++ l = b

theorem rawW_ok {l b : List UInt8} {most : Nat} (h : l.length + b.length ≤ most) : rawW most (0, l) b = (0, l ++ b) := by
  unfold rawW
  rw [if_neg (by simp), if_neg (by simp only; omega)]
theorem numW_ok {l : List UInt8} {x n most : Nat} (h1 : 1 ≤ n) (h8 : n ≤ 8) (hx : x < 2 ^ (8 * n)) (h : l.length + n ≤ most) : numW most (0, l) x n = (0, l ++ numB x n) := by
  unfold numW
  rw [if_neg, Int.toNat_natCast, rawW_ok (by rw [numB_length]; exact h)]
  rintro (h | h | ⟨_, h⟩)
  · omega
  · omega
  · exact h (by rw [Int.toNat_natCast]; exact Nat.div_eq_of_lt hx)
theorem bytesW_ok {l b : List UInt8} {most : Nat} (hb : b.length ≤ 65535) (h : l.length + 2 + b.length ≤ most) : bytesW most (0, l) b = (0, l ++ (numB b.length 2 ++ b)) := by
  unfold bytesW
  rw [if_neg (by omega), rawW_ok (by rw [List.length_append, numB_length]; omega)]

theorem once_bool {b l l' : List UInt8} {e e' : Int} (hb : b.length ≤ 400) (h : OnceInv b e l e' l') :
    OnceInv b (boolR e l).2.1 (boolR e l).2.2 (rawW 1000 (e', l') [if (boolR e l).1 then 1 else 0]).1 (rawW 1000 (e', l') [if (boolR e l).1 then 1 else 0]).2 := by
  intro he
  obtain ⟨⟨t, e1, l1⟩, ht⟩ : ∃ t, boolR e l = t := ⟨_, rfl⟩
  rw [ht] at he ⊢
  simp only at he ⊢
  subst he
  by_cases h0 : e = 0
  · subst h0
    obtain ⟨rfl, hl⟩ := h rfl
    have := boolR_ok ht
    subst this
    have hlen := congrArg List.length hl
    simp only [List.length_append, List.length_cons] at hlen
    rw [rawW_ok (by simp; omega)]
    exact ⟨rfl, by rw [← hl, List.append_assoc]; rfl⟩
  · rw [boolR_bad h0] at ht
    simp only [Prod.mk.injEq] at ht
    exact absurd ht.2.1 h0
theorem once_num {b l l' : List UInt8} {e e' : Int} {n : Int} (hb : b.length ≤ 400) (h : OnceInv b e l e' l') :
    OnceInv b (numR e l n).2.1 (numR e l n).2.2 (numW 1000 (e', l') (numR e l n).1 n).1 (numW 1000 (e', l') (numR e l n).1 n).2 := by
  intro he
  obtain ⟨⟨t, e1, l1⟩, ht⟩ : ∃ t, numR e l n = t := ⟨_, rfl⟩
  rw [ht] at he ⊢
  simp only at he ⊢
  subst he
  by_cases h0 : e = 0
  · subst h0
    obtain ⟨rfl, hl⟩ := h rfl
    obtain ⟨h1, h8, hx, rfl⟩ := numR_ok ht
    obtain ⟨n, rfl⟩ : ∃ k : Nat, n = k := ⟨n.toNat, by omega⟩
    rw [Int.toNat_natCast] at hl hx
    have hlen := congrArg List.length hl
    simp only [List.length_append, numB_length] at hlen
    rw [numW_ok (by omega) (by omega) hx (by omega)]
    exact ⟨rfl, by rw [← hl, List.append_assoc]⟩
  · rw [numR_bad h0] at ht
    simp only [Prod.mk.injEq] at ht
    exact absurd ht.2.1 h0
theorem once_bytes {b l l' : List UInt8} {e e' : Int} {n : Int} (hb : b.length ≤ 400) (h : OnceInv b e l e' l') :
    OnceInv b (bytesR e l n).2.1 (bytesR e l n).2.2 (bytesW 1000 (e', l') (bytesR e l n).1).1 (bytesW 1000 (e', l') (bytesR e l n).1).2 := by
  intro he
  obtain ⟨⟨t, e1, l1⟩, ht⟩ : ∃ t, bytesR e l n = t := ⟨_, rfl⟩
  rw [ht] at he ⊢
  simp only at he ⊢
  subst he
  by_cases h0 : e = 0
  · subst h0
    obtain ⟨rfl, hl⟩ := h rfl
    obtain ⟨h1, h8, rfl⟩ := bytesR_ok ht
    have hlen := congrArg List.length hl
    simp only [List.length_append, numB_length] at hlen
    rw [bytesW_ok h1 (by omega)]
    exact ⟨rfl, by rw [← hl]; simp⟩
  · rw [bytesR_bad h0] at ht
    simp only [Prod.mk.injEq] at ht
    exact absurd ht.2.1 h0

theorem numR_lt (e : Int) (l : List UInt8) (n : Int) : (numR e l n).1 < 18446744073709551616 := by
  unfold numR
  split
  · simp
  · simp only
    have h1 := valN_lt (takeR e l n.toNat).1
    have h2 : (takeR e l n.toNat).1.length ≤ 8 := by
      unfold takeR
      split
      · simp
      · split
        · simp
        · simp; omega
    exact Nat.lt_of_lt_of_le h1 (Nat.le_trans (Nat.pow_le_pow_right (by decide) (show 8 * _ ≤ 64 by omega)) (by decide))

/-- a reader and a writer, the one's box ahead of the other's -/
structure Both (w : World) (X : Nat → Prop) (gr gw : Nat) (e : Int) (l : List UInt8) (e' : Int) (v : Value) (l' : List UInt8) (most : Nat) : Prop where
  r : ReaderAt w gr X e l
  w : WriterAt w gw e' v l' most
  lt : gr < gw
  x : ∀ q, gw ≤ q → X q
theorem Both.read {w w' : World} {X : Nat → Prop} {gr gw : Nat} {e e1 : Int} {l l1 : List UInt8} {e' : Int} {v : Value} {l' : List UInt8} {most : Nat} (B : Both w X gr gw e l e' v l' most) (R : ReaderAt w' gr X e1 l1) (hg : w.grownBy w' (some gr)) : Both w' X gr gw e1 l1 e' v l' most :=
  ⟨R, B.w.row_kept hg B.lt, B.lt, B.x⟩
theorem Both.write {w w' : World} {X : Nat → Prop} {gr gw : Nat} {e : Int} {l : List UInt8} {e' e1 : Int} {v v' : Value} {l' l1 : List UInt8} {most : Nat} (B : Both w X gr gw e l e' v l' most) (W : WriterAt w' gw e1 v' l1 most) (k : Wrote w gw v w' v') : Both w' X gr gw e l e1 v' l1 most :=
  ⟨B.r.wrote B.w k B.lt B.x, W, B.lt, B.x⟩

def OnceRel (w : World) (X : Nat → Prop) (gr gw n : Nat) (b : List UInt8) (i : Value) (wr : World) : Prop :=
  ∃ (k : Nat) (e : Int) (l : List UInt8) (e' : Int) (v : Value) (l' : List UInt8), k ≤ n ∧ i = .int .i64 k ∧ Both wr X gr gw e l e' v l' 1000 ∧ OnceInv b e l e' l' ∧ w.grownBy wr none

set_option maxHeartbeats 3200000 in
theorem once_walk (a : Option Addr) (len cap : Nat) (l : List UInt8) (a2 : Option Addr) (lens caps : Nat) (ls : List UInt8) (w : World) (hb : InB w a len cap l) (hs : InB w a2 lens caps ls) :
    Calls Try.prog 3 #[.slice a len cap, .slice a2 lens caps] w fun r w' => r = .returned (.bool true) ∧ Below w.heap.size w w' := by
  obtain ⟨n, hn, hnk, hnc, hmin⟩ := min_any len 400 (by decide)
  obtain ⟨m, hm, hmk, hmc, hmins⟩ := min_any lens 60 (by decide)
  obtain ⟨hbl, hbr, hbc⟩ := hb.cut hn
  obtain ⟨hsl, hsr, hsc⟩ := hs.cut hm
  have h1 := hb.cap_le; have h2 := hs.cap_le
  generalize l.take n = b at *
  generalize ls.take m = sz at *
  have HBL := Lib.hid hbl; have HBR := Lib.hid hbr; have HSL := Lib.hid hsl; have HSR := Lib.hid hsr
  have hm60 : m ≤ 60 := by omega
  have hn400 : n ≤ 400 := by omega
  clear hbl hbr hsl hsr hb hs hnc hmc hmk hnk
  go_enter Try.func3, Try.ntmps3
  have i0 : (0 : Int) ≤ (n : Int) := by omega
  have i1 : (n : Int) ≤ (len : Int) := by omega
  have i2 : (n : Int) ≤ (cap : Int) := by omega
  have j0 : (0 : Int) ≤ (m : Int) := by omega
  have j1 : (m : Int) ≤ (lens : Int) := by omega
  have j2 : (m : Int) ≤ (caps : Int) := by omega
  go_wp2_with fail
  go_quiet (fail)
  have HG0 := Lib.hid (grown_drewN w nq)
  have HBR0 := Lib.hid (show RB (w.drewN nq) a b from HBR.out)
  clear hmin hmins
  generalize w.drewN nq = w0 at *
  go_wp2_with fail
  refine (wire_read a n _ b w0 HBL.out HBR0.out (by omega)).mono ?_
  rintro r w1 ⟨gr, rfl, hge, hR, hg⟩
  have HR1 := Lib.hid hR; have HG1 := Lib.hid (grown_trans HG0.out hg)
  clear hR hg HBR0
  go_wp2_with fail
  refine (wire_new 1000 1000 rfl w1).mono ?_
  rintro r w2 ⟨rfl, hW, hg⟩
  obtain ⟨_, _, _, hbx, _⟩ := HR1.out.box
  have hlt := hbx.lt
  have HB2 := Lib.hid (show Both w2 (OutX w0.heap.size gr) gr w1.heap.size 0 b 0 (.slice none 0 0) [] 1000 from ⟨HR1.out.grown hg, hW, hlt, fun q h => .inr (by omega)⟩)
  have hgg := grown_trans HG1.out hg
  have HGW := Lib.hid (show w.heap.size ≤ gr from Nat.le_trans HG0.out.size hge)
  clear hW hbx
  generalize w1.heap.size = gw at *
  generalize OutX w0.heap.size gr = X at *
  clear HR1 HG1 HG0 hg hge
  go_wp2_with fail
  obtain ⟨w9, hw9⟩ : ∃ w9, w9 = w2 := ⟨_, rfl⟩
  subst hw9
  have HGG := Lib.hid hgg
  have HGX := Lib.hid (show w.heap.size ≤ gw from Nat.le_trans HGW.out (Nat.le_of_lt hlt))
  clear hgg hlt
  go_loopw [7] (fun i wr => OnceRel w X gr gw m b i wr) (fun i _ => m - (intOf i).toNat)
  case atStart => exact ⟨0, 0, b, 0, _, [], Nat.zero_le _, rfl, HB2.out, fun _ => ⟨rfl, rfl⟩, HGG.out⟩
  case round =>
    obtain ⟨k, e, l, e', v, l', hk, rfl, hB, hI, hg⟩ := hrel
    have HB := Lib.hid hB; have HI := Lib.hid hI; have HG := Lib.hid hg
    have hsrk := HSR.out.old (grown_below hg)
    clear hB hI hg
    by_cases hlt : k < m
    · obtain ⟨bk, o, rfl, hc⟩ := hsrk.get k (by rw [HSL.out]; exact hlt)
      obtain ⟨u, hu⟩ : ∃ u, sz.getD k 0 = u := ⟨_, rfl⟩
      rw [hu] at hc
      have hc' : wr.cell? ⟨bk, o + k, none⟩ = some (.int .u8 (u.toNat : Int)) := hc
      clear hc hu hsrk
      have hu8 := u.toNat_lt
      have i0 : (0 : Int) ≤ (k : Int) := by omega
      have i1 : (k : Int) < (m : Int) := by omega
      have hx : 0 ≤ (u.toNat : Int) % 10 ∧ (u.toNat : Int) % 10 < 10 := by omega
      obtain ⟨z, hz⟩ : ∃ z, (u.toNat : Int) % 10 = z := ⟨_, rfl⟩
      go_wp2_with fail
      · refine (wire_rbool HB.out.r).mono ?_
        rintro r w3 ⟨rfl, hR, hg⟩
        have HB3 := Lib.hid (HB.out.read hR hg)
        have HG3 := Lib.hid (grown_new HG.out HGW.out hg)
        clear hR hg
        go_wp2_with fail
        refine (wire_bool HB3.out.w (boolR e l).1 (Room.of (by decide))).mono ?_
        rintro r w4 ⟨rfl, v4, hW, hk4⟩
        have HB4 := Lib.hid (HB3.out.write hW hk4)
        have HG4 := Lib.hid (hk4.none HG3.out HGX.out HB3.out.w)
        have HI4 := Lib.hid (once_bool (by rw [HBL.out]; exact hn400) HI.out)
        clear hW hk4
        go_wp2_with fail
        exact ⟨⟨k + 1, _, _, _, _, _, by omega, by go_num, HB4.out, HI4.out, HG4.out⟩, by simp only [intOf]; omega⟩
      · refine (wire_rbytes HB.out.r 400).mono ?_
        rintro r w3 ⟨a3, n3, c3, rfl, hn3, hx3, hR, hg⟩
        have HB3 := Lib.hid (HB.out.read hR hg)
        have HG3 := Lib.hid (grown_new HG.out (show w.heap.size ≤ gr from HGW.out) hg)
        have HN3 := Lib.hid hn3; have HX3 := Lib.hid hx3.rb
        clear hR hg hn3 hx3
        go_wp2_with fail
        refine (wire_bytes HB3.out.w a3 n3 c3 _ HN3.out HX3.out (Room.of (by decide))).mono ?_
        rintro r w4 ⟨rfl, v4, hW, hk4⟩
        have HB4 := Lib.hid (HB3.out.write hW hk4)
        have HG4 := Lib.hid (hk4.none HG3.out HGX.out HB3.out.w)
        have HI4 := Lib.hid (once_bytes (n := 400) (by rw [HBL.out]; exact hn400) HI.out)
        clear hW hk4
        go_wp2_with fail
        exact ⟨⟨k + 1, _, _, _, _, _, by omega, by go_num, HB4.out, HI4.out, HG4.out⟩, by simp only [intOf]; omega⟩
      · rw [hz]
        refine (wire_rnum HB.out.r z).mono ?_
        rintro r w3 ⟨rfl, hR, hg⟩
        have HB3 := Lib.hid (HB.out.read hR hg)
        have HG3 := Lib.hid (grown_new HG.out (show w.heap.size ≤ gr from HGW.out) hg)
        clear hR hg
        have HLT := Lib.hid (numR_lt e l z)
        go_wp2_with fail
        refine (wire_num HB3.out.w (numR e l z).1 HLT.out z (Room.of (by decide))).mono ?_
        rintro r w4 ⟨rfl, v4, hW, hk4⟩
        have HB4 := Lib.hid (HB3.out.write hW hk4)
        have HG4 := Lib.hid (hk4.none HG3.out HGX.out HB3.out.w)
        have HI4 := Lib.hid (once_num (n := z) (by rw [HBL.out]; exact hn400) HI.out)
        clear hW hk4
        go_wp2_with fail
        exact ⟨⟨k + 1, _, _, _, _, _, by omega, by go_num, HB4.out, HI4.out, HG4.out⟩, by simp only [intOf]; omega⟩
    · obtain rfl : k = m := by omega
      clear hsrk
      go_wp2_with fail
      refine (wire_done HB.out.w (Room.of (by decide))).mono ?_
      rintro r w3 ⟨a3, n3, c3, rfl, hn, hrb, _, hg⟩
      have HB3 := Lib.hid (HB.out.r.grown hg); have HG3 := Lib.hid (grown_trans HG.out hg)
      have HBR3 := Lib.hid (HBR.out.old (grown_below (grown_trans HG.out hg)))
      clear hg
      by_cases hz : endR e l = 0
      · have he : e = 0 ∧ l = [] := by
          unfold endR at hz
          split at hz
          · split at hz
            · exact ⟨by assumption, by assumption⟩
            · exact absurd hz (by decide)
          · contradiction
        obtain ⟨rfl, rfl⟩ := he
        obtain ⟨rfl, hl⟩ := HI.out rfl
        rw [List.append_nil] at hl
        subst hl
        rw [if_pos rfl] at hn
        have hs1 := string_bytes a3 n3 c3 l' w3 (hrb rfl) hn.symm
        have hs2 := string_bytes a n cap l' w3 HBR3.out HBL.out
        clear hn hrb
        have HE := Lib.hid (wire_end HB3.out)
        rw [hz] at HE
        clear hz
        go_wp2_with fail
        refine HE.out.mono ?_
        rintro r w4 ⟨rfl, rfl⟩
        go_wp2_with fail
        clear hs1 hs2
        refine (wire_works w3).mono ?_
        rintro r w5 ⟨rfl, hg⟩
        have HG5 := Lib.hid (grown_trans HG3.out hg)
        clear hg
        go_wp2_with fail
        go_ret
        exact ⟨rfl, grown_below HG5.out⟩
      · clear hrb hn
        have HE := Lib.hid (wire_end HB3.out)
        obtain ⟨z, hz'⟩ : ∃ z, endR e l = z := ⟨_, rfl⟩
        rw [hz'] at HE hz
        clear hz'
        have hzb : (z != 0) = true := by simp [hz]
        go_wp2_with fail
        refine HE.out.mono ?_
        rintro r w4 ⟨rfl, rfl⟩
        go_wp2_with fail
        refine (wire_works w3).mono ?_
        rintro r w5 ⟨rfl, hg⟩
        have HG5 := Lib.hid (grown_trans HG3.out hg)
        clear hg
        go_wp2_with fail
        go_ret
        exact ⟨rfl, grown_below HG5.out⟩
end Go.Proofs.Ythpoccjlhcpoiaa
