/-
  The document's tape: whole segments go from the beginning.
-/
import Derived.Test.YtkemocbifancfaaTRefB
import Derived.Deep.DeepCutAuto
namespace Go.Proofs.Ytkemocbifancfaa
open Go.RowKit
set_option maxRecDepth 100000

/-- how many segments go, by the document -/
def docN (F s n : Nat) (keep : Int) : Nat := ((min keep ((F + n : Nat) : Int)) - (F : Int)).toNat / s
theorem docN_le (F s n : Nat) (keep : Int) : docN F s n keep * s ≤ n := by
  unfold docN
  have := Nat.div_mul_le_self ((min keep ((F + n : Nat) : Int)) - (F : Int)).toNat s
  omega
theorem SlB.fromO {w : World} {a : Option Addr} {n c : Nat} {l : List UInt8} (h : SlB w a n c l) {q : Nat} (hq : q ≤ n) : SlB w (if c = q then a else Option.map (fun x => x.add q) a) (n - q) (c - q) (l.drop q) := by
  rcases h.shape with ⟨rfl, rfl⟩ | ⟨b, o, rfl⟩
  · have hc := h.cap
    obtain rfl : n = 0 := by omega
    obtain rfl : q = 0 := by omega
    exact h
  · have e := h.from hq rfl
    rw [Option.map_some, Addr.add_lit]
    exact e
def DDRel (w1 : World) (s D : Nat) (i : Value) (wr : World) : Prop := ∃ d : Nat, d ≤ D ∧ i = .int .i64 ((d * s : Nat) : Int) ∧ w1.grownBy wr none
set_option maxHeartbeats 12800000 in
theorem ref_drop (a : Option Addr) (n c F s : Nat) (l : List UInt8) (x : Int) (w : World) (h : SlB w a n c l) (hs : 64 ≤ s ∧ s ≤ 4096) (hbig : F + n ≤ 1099511627776) (hxl : -9223372036854775808 ≤ x) :
    Calls Try.prog 76 #[.agg #[.slice a n c, .int .i64 (F : Int), .int .i64 (s : Int)], .int .i64 x] w (DocPost w l a (F + docN F s n x * s) s (l.drop (docN F s n x * s))) := by
  have HE := Lib.hid (fun u => ref_end a n c F s u hbig)
  have hbx := (Box.new w 50 [.slice a n c, .int .i64 (F : Int), .int .i64 (s : Int)] w.heap.size rfl).alloc (.cells #[.slice none 0 0, .int .i64 0, .int .i64 0] 50)
  have hbz := Box.new (w.alloc (.cells #[.slice a n c, .int .i64 (F : Int), .int .i64 (s : Int)] 50)) 50 [.slice none 0 0, .int .i64 0, .int .i64 0] (w.heap.size + 1) (by simp)
  have hg := growA _ (.cells #[.slice none 0 0, .int .i64 0, .int .i64 0] 50) (World.grownBy_alloc w (.cells #[.slice a n c, .int .i64 (F : Int), .int .i64 (s : Int)] 50) none)
  have hx := hbx.look
  have HBX := Lib.hid hbx; have HBZ := Lib.hid hbz; have HG := Lib.hid hg
  have H1 := Lib.hid (h.grown hg)
  have hln := h.len
  have hnc := h.cap
  have hcm : c ≤ 9223372036854775807 := h.max
  have hblk : ∀ ad, a = some ad → l ≠ [] → ad.block ≠ w.heap.size + 1 := fun ad e hne e2 => by
    obtain ⟨b, o, e3, hc⟩ := h.rb 0 (List.length_pos_iff.2 hne)
    rw [e] at e3
    cases e3
    have := World.block_lt_of_cell? w _ hc
    simp only at e2 this
    omega
  have HBK := Lib.hid hblk
  obtain ⟨D, hD⟩ : ∃ D, docN F s n x = D := ⟨_, rfl⟩
  have hDn := docN_le F s n x
  rw [hD] at hDn ⊢
  have HDD := Lib.hid (fun _ : True => hD)
  obtain ⟨e, he⟩ : ∃ e, F + n = e := ⟨_, rfl⟩
  rw [he] at HE hbig
  have HEE := Lib.hid (fun _ : True => he)
  clear hbx hbz hg h hblk hD
  go_enter Try.func76, Try.ntmps76
  go_wp2_with fail
  generalize (w.alloc (.cells #[.slice a n c, .int .i64 (F : Int), .int .i64 (s : Int)] 50)).alloc (.cells #[.slice none 0 0, .int .i64 0, .int .i64 0] 50) = w1 at *
  refine (HE.out _).mono ?_
  rintro r w2 ⟨rfl, hg2⟩
  have hx2 := (HBX.out.grown hg2).look
  have HG2 := Lib.hid hg2
  clear hx hg2
  obtain ⟨k1, hk1⟩ : ∃ k1, min x (e : Int) = k1 := ⟨_, rfl⟩
  have hkD : D = (k1 - (F : Int)).toNat / s := by rw [← hk1, ← HDD.out trivial, ← HEE.out trivial]; rfl
  go_upto_if 9 with (fail)
  go_cut [1] (fun s1 wx => s1 = .int .i64 k1 ∧ w1.grownBy wx none)
  case first =>
    by_cases hgt : x > (e : Int)
    · have hke : k1 = (e : Int) := by omega
      subst hke
      clear hk1 hkD he
      go_wp2_with fail
      refine (HE.out _).mono ?_
      rintro r w3 ⟨rfl, hg3⟩
      have HG3 := Lib.hid (grown_trans HG2.out hg3)
      clear hg3
      go_wp2_with fail
      go_meet
      exact ⟨rfl, HG3.out⟩
    · have hke : k1 = x := by omega
      subst hke
      clear hk1 hkD he
      go_wp2_with fail
      go_meet
      exact ⟨rfl, HG2.out⟩
  case rest =>
  obtain ⟨rfl, hgc⟩ := hcut
  have hk1b : -9223372036854775808 ≤ k1 ∧ k1 ≤ 1099511627776 := by omega
  have HGC := Lib.hid hgc
  clear hx2 hk1 hgc
  go_wp2_with fail
  go_loopw [5] (fun i wr => DDRel w1 s D i wr) (fun i _ => D * s - (intOf i).toNat)
  case atStart => exact ⟨0, Nat.zero_le _, by rw [Nat.zero_mul]; rfl, HGC.out⟩
  case round =>
    obtain ⟨d, hd, rfl, hg⟩ := hrel
    have HGR := Lib.hid hg
    have hx := (HBX.out.grown hg).look
    obtain ⟨p, hp⟩ : ∃ p, d * s = p := ⟨_, rfl⟩
    have hpn : p ≤ n := by rw [← hp]; exact Nat.le_trans (Nat.mul_le_mul_right s hd) hDn
    rw [hp]
    have HP := Lib.hid (fun _ : True => hp)
    clear hg
    by_cases hlt : d < D
    · have hds : p + s ≤ (k1 - (F : Int)).toNat := by
        have h1 := Nat.div_mul_le_self (k1 - (F : Int)).toNat s
        have h2 : (d + 1) * s ≤ D * s := Nat.mul_le_mul_right s (by omega)
        rw [Nat.add_mul, Nat.one_mul, hp] at h2
        rw [← hkD] at h1
        omega
      have j1 : k1 > (F : Int) := by omega
      have j2 : k1 - (F : Int) - (p : Int) ≥ (s : Int) := by omega
      clear hp hkD
      go_wp2_with fail
      go_roundw
      all_goals first
        | (exact ⟨d + 1, by omega, by rw [Nat.add_mul, Nat.one_mul, HP.out trivial]; go_num, HGR.out⟩)
        | (have h2 : (d + 1) * s ≤ D * s := Nat.mul_le_mul_right s (by omega)
           rw [Nat.add_mul, Nat.one_mul, HP.out trivial] at h2
           simp [intOf]
           omega)
    · obtain rfl : d = D := by omega
      have hds : (k1 - (F : Int)).toNat < p + s := by
        have h1 := Nat.div_add_mod (k1 - (F : Int)).toNat s
        have h2 := Nat.mod_lt (k1 - (F : Int)).toNat (show s > 0 by omega)
        rw [← hkD, Nat.mul_comm, hp] at h1
        omega
      have HS := Lib.hid (H1.out.grown HGR.out)
      have hz := (HBZ.out.grown HGR.out).look
      have ho := (HBZ.out.grown HGR.out).open
      have HGW := Lib.hid (grown_trans HG.out HGR.out)
      have q1 : (F : Int) + (p : Int) = ((F + p : Nat) : Int) := by push_cast; rfl
      obtain ⟨F2, hF2⟩ : ∃ z, F + p = z := ⟨_, rfl⟩
      rw [hF2] at q1
      have HF2 := Lib.hid (fun _ : True => hF2)
      have hF2b : F2 ≤ 1099511627776 := by omega
      have q2 : IntKind.i64.wrap ((F : Int) + (p : Int)) = (F2 : Int) := by rw [q1, IntKind.wrap_i64]; omega
      have q3 : IntKind.i64.wrap (F2 : Int) = (F2 : Int) := by rw [IntKind.wrap_i64]; omega
      have i0 : (0 : Int) ≤ (p : Int) := by omega
      have i1 : (p : Int) ≤ (n : Int) := by omega
      have i2 : (p : Int) ≤ (c : Int) := by omega
      have i3 : (n : Int) ≤ (c : Int) := by omega
      have HBT := Lib.hid (show ∀ ad, (if c = p then a else Option.map (fun x => x.add p) a) = some ad → l.drop p ≠ [] → ad.block ≠ w.heap.size + 1 from fun ad e hne => by
        have hl : l ≠ [] := fun h => hne (by rw [h, List.drop_nil])
        rcases H1.out.shape with ⟨rfl, rfl⟩ | ⟨b, o, rfl⟩
        · simp at e
        · have hb := HBK.out _ rfl hl
          rw [Option.map_some, Addr.add_lit] at e
          split at e
          · cases e; exact hb
          · cases e; exact hb)
      clear hp hkD hF2
      by_cases hgt : k1 > (F : Int)
      · have j2 : ¬ (k1 - (F : Int) - (p : Int) ≥ (s : Int)) := by omega
        by_cases hcp : c = p
        · go_wp2_with fail
          go_region_law (fail)
          all_goals (
            go_wp2_with fail
            refine bodyPost_ret (v := .agg #[.slice a (n - p) 0, .int .i64 (F2 : Int), .int .i64 (s : Int)]) ?_ rfl ?_
            · simp only [results]
              go_simp
            · have hsl := HS.out.fromO hpn
              have hbt := HBT.out
              rw [if_pos hcp] at hsl
              simp only [if_pos hcp] at hbt
              rw [show c - p = 0 by omega] at hsl
              have hd := doc_store w wr (w.heap.size + 1) a (n - p) 0 F2 s (l.drop p) hsl HGW.out (Nat.le_succ _) hbt
              refine ⟨a, n - p, 0, ?_, ?_, grown_drew hd.2, Near.refl _ _ (fun e => by rw [e, List.drop_nil])⟩
              · rw [HP.out trivial, HF2.out trivial]
              · rw [HP.out trivial]
                exact hd.1.grown (grown_drew1 _))
        · go_wp2_with fail
          go_region_law (fail)
          all_goals (
            go_wp2_with fail
            refine bodyPost_ret (v := .agg #[.slice (Option.map (fun x => x.add p) a) (n - p) (c - p), .int .i64 (F2 : Int), .int .i64 (s : Int)]) ?_ rfl ?_
            · simp only [results]
              go_simp
            · have hsl := HS.out.fromO hpn
              have hbt := HBT.out
              rw [if_neg hcp] at hsl
              simp only [if_neg hcp] at hbt
              have hd := doc_store w wr (w.heap.size + 1) (Option.map (fun x => x.add p) a) (n - p) (c - p) F2 s (l.drop p) hsl HGW.out (Nat.le_succ _) hbt
              refine ⟨Option.map (fun x => x.add p) a, n - p, c - p, ?_, ?_, grown_drew hd.2, Near.map _ _ _ (fun e => by rw [e, List.drop_nil])⟩
              · rw [HP.out trivial, HF2.out trivial]
              · rw [HP.out trivial]
                exact hd.1.grown (grown_drew1 _))
      · by_cases hcp : c = p
        · go_wp2_with fail
          go_region_law (fail)
          all_goals (
            go_wp2_with fail
            refine bodyPost_ret (v := .agg #[.slice a (n - p) 0, .int .i64 (F2 : Int), .int .i64 (s : Int)]) ?_ rfl ?_
            · simp only [results]
              go_simp
            · have hsl := HS.out.fromO hpn
              have hbt := HBT.out
              rw [if_pos hcp] at hsl
              simp only [if_pos hcp] at hbt
              rw [show c - p = 0 by omega] at hsl
              have hd := doc_store w wr (w.heap.size + 1) a (n - p) 0 F2 s (l.drop p) hsl HGW.out (Nat.le_succ _) hbt
              refine ⟨a, n - p, 0, ?_, ?_, grown_drew hd.2, Near.refl _ _ (fun e => by rw [e, List.drop_nil])⟩
              · rw [HP.out trivial, HF2.out trivial]
              · rw [HP.out trivial]
                exact hd.1.grown (grown_drew1 _))
        · go_wp2_with fail
          go_region_law (fail)
          all_goals (
            go_wp2_with fail
            refine bodyPost_ret (v := .agg #[.slice (Option.map (fun x => x.add p) a) (n - p) (c - p), .int .i64 (F2 : Int), .int .i64 (s : Int)]) ?_ rfl ?_
            · simp only [results]
              go_simp
            · have hsl := HS.out.fromO hpn
              have hbt := HBT.out
              rw [if_neg hcp] at hsl
              simp only [if_neg hcp] at hbt
              have hd := doc_store w wr (w.heap.size + 1) (Option.map (fun x => x.add p) a) (n - p) (c - p) F2 s (l.drop p) hsl HGW.out (Nat.le_succ _) hbt
              refine ⟨Option.map (fun x => x.add p) a, n - p, c - p, ?_, ?_, grown_drew hd.2, Near.map _ _ _ (fun e => by rw [e, List.drop_nil])⟩
              · rw [HP.out trivial, HF2.out trivial]
              · rw [HP.out trivial]
                exact hd.1.grown (grown_drew1 _))

end Go.Proofs.Ytkemocbifancfaa
