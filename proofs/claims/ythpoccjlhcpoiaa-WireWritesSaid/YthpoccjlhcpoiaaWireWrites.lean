/-
  WireWrites.
-/
import Derived.Test.YthpoccjlhcpoiaaWireTold
namespace Go.Proofs.Ythpoccjlhcpoiaa
open Go.RowKit

theorem OwnB.keptX {X : Nat → Prop} {w w' : World} {B : Nat} {v : Value} {l : List UInt8} (h : OwnB w B v l) (k : Kept X w w') (hx : ∀ q, v.ownBlock = some q → ¬ X q) : OwnB w' B v l := by
  refine ⟨h.1, h.2.imp id ?_⟩
  rintro ⟨g, cap, cur, hv, hb, hg, rest⟩
  subst hv
  exact ⟨g, cap, cur, rfl, hb, by rw [k.block g (Array.getElem?_eq_some_iff.1 hg).1 (hx g rfl)]; exact hg, rest⟩

theorem toldI_bad (A : ItemV) : (toldI A).2 = 0 ∨ (toldI A).2 = 1 := by
  unfold toldI
  split
  · split <;> simp
  · split
    · simp
    · split
      · simp
      · split <;> simp

theorem toldI_len (A : ItemV) : (toldI A).1.length ≤ 10 + A.b.length := by
  unfold toldI
  split
  · split
    · simp
    · rename_i h
      simp only [numB_length]
      omega
  · split
    · simp only [numB_length]; omega
    · split
      · simp only [List.length_cons, List.length_nil]; omega
      · split
        · simp only [List.length_append, numB_length]; omega
        · simp only; omega

/-- what the document says of an item -/
def stepI (M : Nat) (s : Int × List UInt8) (t : List UInt8 × Int) : Int × List UInt8 :=
  if s.1 = 0 then (if t.2 ≠ 0 then (t.2, s.2) else if (M : Int) - s.2.length < t.1.length then (7, s.2) else (0, s.2 ++ t.1)) else s

theorem rawW_step (M : Nat) (s : Int × List UInt8) (b : List UInt8) : rawW M s b = stepI M s (b, 0) := by
  unfold rawW stepI
  by_cases h : s.1 = 0
  · rw [if_neg (by simpa using h), if_pos h]
    simp
  · rw [if_pos h, if_neg h]
theorem putW_step (M : Nat) (s : Int × List UInt8) (A : ItemV) (hx : A.x < 18446744073709551616) (hb : A.b.length ≤ 300) : putW M s A = stepI M s (toldI A) := by
  have hw : wrongW s 1 = stepI M s ([], 1) := by
    unfold wrongW stepI
    by_cases h : s.1 = 0
    · rw [if_pos h, if_pos h, if_pos (by simp)]
    · rw [if_neg h, if_neg h]
  unfold putW toldI
  have hq : A.k.toNat % 5 < 5 := by omega
  generalize A.k.toNat % 5 = q at *
  rcases (show q = 0 ∨ q = 1 ∨ q = 2 ∨ q = 3 ∨ q = 4 by omega) with rfl | rfl | rfl | rfl | rfl
  · rw [if_pos rfl, if_pos rfl]
    unfold numW
    by_cases c : A.n < 1 ∨ 8 < A.n ∨ A.x / 2 ^ (8 * A.n.toNat) ≠ 0
    · rw [if_pos c]
      by_cases d : A.n < 1 ∨ 8 < A.n ∨ (A.n < 8 ∧ A.x / 2 ^ (8 * A.n.toNat) ≠ 0)
      · rw [if_pos d, hw]
      · exfalso
        have : A.n = 8 := by
          rcases c with c | c | c
          · exact absurd (.inl c) d
          · exact absurd (.inr (.inl c)) d
          · by_cases h1 : A.n < 1
            · exact absurd (.inl h1) d
            · by_cases h2 : 8 < A.n
              · exact absurd (.inr (.inl h2)) d
              · by_cases h3 : A.n < 8
                · exact absurd (.inr (.inr ⟨h3, c⟩)) d
                · omega
        rw [this] at c
        rcases c with c | c | c
        · omega
        · omega
        · exact c (Nat.div_eq_of_lt hx)
    · rw [if_neg c, if_neg (fun d => c (d.imp id (fun d => d.imp id (fun d => d.2)))), rawW_step]
  · rw [if_neg (by decide), if_pos rfl, if_neg (by decide), if_pos rfl]
    unfold numW
    rw [if_neg (by omega), rawW_step]
    rfl
  · rw [if_neg (show ¬ (2 : Nat) = 0 by decide), if_neg (show ¬ (2 : Nat) = 1 by decide), if_pos (show (2 : Nat) = 2 from rfl), if_neg (show ¬ (2 : Nat) = 0 by decide), if_neg (show ¬ (2 : Nat) = 1 by decide), if_pos (show (2 : Nat) = 2 from rfl), rawW_step]
  · rw [if_neg (by decide), if_neg (by decide), if_neg (by decide), if_pos rfl, if_neg (by decide), if_neg (by decide), if_neg (by decide), if_pos rfl]
    unfold bytesW
    rw [if_neg (by omega), rawW_step]
  · rw [if_neg (by decide), if_neg (by decide), if_neg (by decide), if_neg (by decide), if_neg (by decide), if_neg (by decide), if_neg (by decide), if_neg (by decide), rawW_step]

def WritesRel (w : World) (gw M len : Nat) (vw ve i : Value) (wr : World) : Prop :=
  ∃ (k : Nat) (e : Int) (v : Value) (l : List UInt8), k ≤ len ∧ i = .int .i64 k ∧ ve = .int .i64 e ∧ WriterAt wr gw e v l M ∧ OwnB wr (gw + 1) vw l ∧ (∀ q, vw.ownBlock = some q → v.ownBlock ≠ some q) ∧ l.length ≤ k * 310 ∧ w.grownBy wr none

set_option maxRecDepth 100000 in
set_option maxHeartbeats 3200000 in
theorem writes_walk (x : Int) (a : Option Addr) (len cap : Nat) (A : Nat → ItemV) (w : World) (hx : -9223372036854775808 ≤ x ∧ x ≤ 9223372036854775807) (hl : len ≤ maxLen) (hA : ∀ i, i < len → ItemAt w a i (A i)) :
    Calls Try.prog 6 #[.int .i64 x, .slice a len cap] w fun r w' => r = .returned (.bool true) ∧ Below w.heap.size w w' := by
  have HA := Lib.hid hA
  have HF := Lib.hid (wire_few w a len cap A hl hA)
  obtain ⟨M, hM⟩ : ∃ M : Nat, M = x.toNat := ⟨_, rfl⟩
  have r1 := max_nat x M hM
  have hMx : M ≤ 9223372036854775807 := by omega
  have HMM := Lib.hid hM
  have HMX := Lib.hid hMx
  clear hA hM hl hx hMx
  go_enter Try.func6, Try.ntmps6
  go_wp2_with fail
  refine HF.out.mono ?_
  rintro r w1 ⟨f, rfl, hg, hf⟩
  have HG1 := Lib.hid hg
  clear hg
  cases f
  · clear hf
    go_wp2_with fail
    refine (wire_works w1).mono ?_
    rintro r w2 ⟨rfl, hg⟩
    have HG2 := Lib.hid (grown_trans HG1.out hg)
    clear hg
    go_wp2_with fail
    go_ret
    exact ⟨rfl, grown_below HG2.out⟩
  obtain ⟨h30, h300⟩ := hf rfl
  have H3 := Lib.hid h300
  clear hf h300
  go_wp2_with fail
  refine (wire_new x M HMM.out w1).mono ?_
  rintro r w2 ⟨rfl, hW, hg⟩
  have HW2 := Lib.hid hW; have HG2 := Lib.hid (grown_trans HG1.out hg)
  have HGW := Lib.hid HG1.out.size
  clear hW hg
  generalize w1.heap.size = gw at *
  clear HG1
  go_wp2_with fail
  obtain ⟨w9, hw9⟩ : ∃ w9, w9 = w2 := ⟨_, rfl⟩
  subst hw9
  go_loopw [6, 7, 8] (fun vw ve i wr => WritesRel w gw M len vw ve i wr) (fun _ _ i _ => len - (intOf i).toNat)
  case atStart => exact ⟨0, 0, _, [], Nat.zero_le _, rfl, rfl, HW2.out, OwnB.nil _ _, fun q h => (by cases h), Nat.zero_le _, HG2.out⟩
  case round =>
    obtain ⟨k, e, v, l, hk, rfl, rfl, hW, hO, hD, hle, hg⟩ := hrel
    have HW := Lib.hid hW; have HO := Lib.hid hO; have HD := Lib.hid hD; have HLE := Lib.hid hle; have HG := Lib.hid hg
    obtain ⟨oa, on, oc, rfl, hon⟩ := hO.len
    have HON := Lib.hid hon
    have HFIT := Lib.hid hW.fit
    clear hW hO hD hle hg hon
    by_cases hlt : k < len
    · obtain ⟨b, o, rfl, c0, c1, c2, c3, hok⟩ := HA.out k hlt
      have d0 := grown_cell HG.out c0
      have d1 := grown_cell HG.out c1
      have d2 := grown_cell HG.out c2
      have d3 := grown_cell HG.out c3
      have HOK := Lib.hid hok
      have HL3 := Lib.hid (H3.out k hlt)
      clear hok
      have i0 : (0 : Int) ≤ (k : Int) := by omega
      have i1 : (k : Int) < (len : Int) := by omega
      have HC0 := Lib.hid c0; have HC1 := Lib.hid c1; have HC2 := Lib.hid c2; have HC3 := Lib.hid c3
      clear c0 c1 c2 c3
      go_wp2_with fail
      refine (wire_put HW.out (A k) ⟨HOK.out.inb.len_eq, HOK.out.inb.cap_le, HOK.out.inb.max, HOK.out.inb.nil, HOK.out.inb.reads.old (grown_below HG.out)⟩ HOK.out.x ⟨HMX.out, .inr (by have := HLE.out; have := HL3.out; omega)⟩).mono ?_
      rintro r w3 ⟨rfl, v3, hW, hk3⟩
      rw [putW_step M (e, l) (A k) HOK.out.x (by rw [HOK.out.inb.len_eq]; exact HL3.out)] at hW
      have HW3 := Lib.hid hW; have HG3 := Lib.hid (hk3.none HG.out HGW.out HW.out)
      have HO3 := Lib.hid (HO.out.keptX hk3.kept (fun q h => by
        have h1 := (HO.out.lt q h).1
        rintro (h2 | h2)
        · omega
        · exact HD.out q h h2))
      have HD3 := Lib.hid (show ∀ q, (Value.slice oa on oc).ownBlock = some q → v3.ownBlock ≠ some q from fun q h h3 => by
        rcases hk3.row q h3 with h4 | h4
        · exact HD.out q h h4
        · have := (HO.out.lt q h).2; omega)
      clear hW hk3 HW HO HD
      have q0 := grown_cell HG3.out HC0.out
      have q1 := grown_cell HG3.out HC1.out
      have q2 := grown_cell HG3.out HC2.out
      have q3 := grown_cell HG3.out HC3.out
      clear d0 d1 d2 d3
      go_wp2_with fail
      have HT := Lib.hid (wire_told w3 (A k) ⟨HOK.out.inb.len_eq, HOK.out.inb.cap_le, HOK.out.inb.max, HOK.out.inb.nil, HOK.out.inb.reads.old (grown_below HG3.out)⟩ HOK.out.x (by have := HL3.out; omega))
      obtain ⟨⟨tb, te⟩, ht⟩ : ∃ t, toldI (A k) = t := ⟨_, rfl⟩
      have HTL := Lib.hid (toldI_len (A k))
      have hte := toldI_bad (A k)
      rw [ht] at HT HW3 HTL hte
      clear ht
      simp only at hte
      refine HT.out.mono ?_
      rintro r w4 ⟨ta, tn, tc, rfl, htn, htr, hg⟩
      have HW4 := Lib.hid (HW3.out.grown hg); have HO4 := Lib.hid (HO3.out.kept hg (Classical.em _)); have HG4 := Lib.hid (grown_trans HG3.out hg)
      have HTN := Lib.hid htn; have HTR := Lib.hid htr
      clear htn htr hg HW3 HO3 HG3 q0 q1 q2 q3 HT
      simp only at HW4 HTL HTN HTR
      clear HC0 HC1 HC2 HC3
      have HFT := Lib.hid HFIT.out
      by_cases he : e = 0
      · subst he
        rcases hte with rfl | rfl
        · have hsub : IntKind.i64.wrap ((M : Int) - (on : Int)) = (M : Int) - (on : Int) := wrap_small _ (by have := HON.out; have := HFT.out; omega) (by have := HMX.out; omega)
          by_cases hcmp : (M : Int) - (on : Int) < (tn : Int)
          · have hst : stepI M (0, l) (tb, 0) = (7, l) := by unfold stepI; rw [if_pos rfl, if_neg (by simp), if_pos (by simp only; rw [HON.out, HTN.out]; exact hcmp)]
            rw [hst] at HW4
            clear hst
            have HL := Lib.hid (wire_len HW4.out)
            rw [HON.out] at HL
            go_wp2_with fail
            refine HL.out.mono ?_
            rintro r w5 ⟨rfl, rfl⟩
            go_wp2_with fail
            exact ⟨⟨k + 1, _, _, _, by omega, by go_num, rfl, HW4.out, HO4.out, HD3.out, by have := HLE.out; omega, HG4.out⟩, by simp only [intOf]; omega⟩
          · have hst : stepI M (0, l) (tb, 0) = (0, l ++ tb) := by unfold stepI; rw [if_pos rfl, if_neg (by simp), if_neg (by simp only; rw [HON.out, HTN.out]; exact hcmp)]
            rw [hst] at HW4
            clear hst
            have HLT := Lib.hid HO4.out.lt
            go_wp2_with (at_builtin; refine wpList_append_bytes2 (o := ⟨some 62, _, _, _, _, _⟩) rfl _ _ rfl (gw + 1) _ l rfl HO4.out ta _ tc tb rfl HTR.out HTN.out (by have := HLE.out; have := HTL.out; have := HL3.out; have := HOK.out.inb.len_eq; have := HTN.out; omega) (by have := HW4.out.box.lt; omega) ?_)
            intro v5 w5 ho5 hg5 hk5
            obtain ⟨a5, n5, c5, rfl, hn5⟩ := ho5.len
            have HO5 := Lib.hid ho5; have HN5 := Lib.hid hn5
            have HW5 := Lib.hid (show WriterAt w5 gw 0 v3 (l ++ tb) M from ⟨HW4.out.box.kept hg5 (fun h => by have := (HLT.out gw h).1; omega), HW4.out.row.kept hg5 (by
              rcases h : v3.ownBlock with _ | q
              · exact .inl rfl
              · exact .inr (fun h2 => HD3.out q h2.symm h)), HW4.out.fit⟩)
            have HG5 := Lib.hid (grown_row HG4.out (fun g h => by have := (HLT.out g h).1; have := HGW.out; omega) hg5)
            have HD5 := Lib.hid (show ∀ q, (Value.slice a5 n5 c5).ownBlock = some q → v3.ownBlock ≠ some q from fun q h h3 => by
              rcases hk5 q h with h4 | h4
              · exact HD3.out q h4 h3
              · have := (HW4.out.row.lt q h3).2; omega)
            clear ho5 hg5 hk5 hn5
            have HL := Lib.hid (wire_len HW5.out)
            rw [HN5.out] at HL
            go_wp2_with fail
            refine HL.out.mono ?_
            rintro r w6 ⟨rfl, rfl⟩
            go_wp2_with fail
            exact ⟨⟨k + 1, _, _, _, by omega, by go_num, rfl, HW5.out, HO5.out, HD5.out, by have := HLE.out; have := HTL.out; have := HL3.out; have := HOK.out.inb.len_eq; rw [List.length_append]; omega, HG5.out⟩, by simp only [intOf]; omega⟩
        · have hst : stepI M (0, l) (tb, 1) = (1, l) := by unfold stepI; rw [if_pos rfl, if_pos (by simp)]
          rw [hst] at HW4
          clear hst
          have HL := Lib.hid (wire_len HW4.out)
          rw [HON.out] at HL
          go_wp2_with fail
          refine HL.out.mono ?_
          rintro r w5 ⟨rfl, rfl⟩
          go_wp2_with fail
          exact ⟨⟨k + 1, _, _, _, by omega, by go_num, rfl, HW4.out, HO4.out, HD3.out, by have := HLE.out; omega, HG4.out⟩, by simp only [intOf]; omega⟩
      · have hst : stepI M (e, l) (tb, te) = (e, l) := by unfold stepI; rw [if_neg (by simpa using he)]
        rw [hst] at HW4
        clear hst
        have he' : (e == 0) = false := by simpa using he
        have HL := Lib.hid (wire_len HW4.out)
        rw [HON.out] at HL
        go_wp2_with fail
        refine HL.out.mono ?_
        rintro r w5 ⟨rfl, rfl⟩
        go_wp2_with fail
        exact ⟨⟨k + 1, _, _, _, by omega, by go_num, rfl, HW4.out, HO4.out, HD3.out, by have := HLE.out; omega, HG4.out⟩, by simp only [intOf]; omega⟩
    · obtain rfl : k = len := by omega
      go_wp2_with fail
      refine (wire_done HW.out ⟨HMX.out, .inr (by have := HLE.out; omega)⟩).mono ?_
      rintro r w3 ⟨a3, n3, c3, rfl, hn, hrb, _, hg⟩
      have HG3 := Lib.hid (grown_trans HG.out hg)
      have HO3 := Lib.hid (RB.of_own (HO.out.kept hg (Classical.em _)))
      clear hg
      by_cases he : e = 0
      · subst he
        rw [if_pos rfl] at hn
        have hs1 := string_bytes a3 n3 c3 l w3 (hrb rfl) hn.symm
        have hs2 := string_bytes oa on oc l w3 HO3.out HON.out
        clear hn hrb
        go_wp2_with fail
        clear hs1 hs2
        refine (wire_works w3).mono ?_
        rintro r w5 ⟨rfl, hg⟩
        have HG5 := Lib.hid (grown_trans HG3.out hg)
        clear hg
        go_wp2_with fail
        go_ret
        exact ⟨rfl, grown_below HG5.out⟩
      · rw [if_neg he] at hn
        subst hn
        clear hrb
        have he' : (e != 0) = true := by simp [he]
        go_wp2_with fail
        refine (wire_works w3).mono ?_
        rintro r w5 ⟨rfl, hg⟩
        have HG5 := Lib.hid (grown_trans HG3.out hg)
        clear hg
        go_wp2_with fail
        go_ret
        exact ⟨rfl, grown_below HG5.out⟩
end Go.Proofs.Ythpoccjlhcpoiaa
