/-
  ScriptBytes, ScriptBack.
-/
import Derived.Test.YtomnhgcjdnhijaaScriptWorks
namespace Go.Proofs.Ytomnhgcjdnhijaa
open Go.RowKit
set_option maxRecDepth 100000

theorem dec_few (l : List UInt8) : (decE l).1.length ≤ 1024 := by
  obtain ⟨⟨M, e⟩, h⟩ : ∃ t, decE l = t := ⟨_, rfl⟩
  rw [h]
  by_cases he : e = 0
  · subst he
    exact (enc_decE h).2.2.2
  · have h' := h
    unfold decE at h
    split at h
    · cases h; simp
    · split at h
      · cases h; simp
      · have : ∀ (n : Nat) (l : List UInt8) (acc : List EvP), (decF n l acc).2 ≠ 0 → (decF n l acc).1 = [] := by
          intro n
          induction n with
          | zero => intro l acc h; unfold decF at h ⊢; split <;> simp_all
          | succ n ih =>
            intro l acc h
            cases l with
            | nil => rfl
            | cons k r =>
              rw [decF_cons] at h ⊢
              split
              · rfl
              · rename_i hk
                rw [if_neg hk] at h
                split
                · rfl
                · rename_i hy
                  rw [if_neg hy] at h
                  exact ih _ _ h
        have := this (valN (l.take 2)) (l.drop 2) [] (by rw [h]; exact he)
        rw [h] at this
        simp only at this
        rw [this]; simp

set_option maxHeartbeats 3200000 in
theorem scriptBytes_walk (a : Option Addr) (n c : Nat) (L : List EvP) (a' : Option Addr) (len cap : Nat) (l0 : List UInt8) (w : World) (hE : EvList w a L) (hn : L.length = n) (hm : n ≤ maxLen) (ok : ∀ e ∈ L, e.ok) (hb : InB w a' len cap l0) :
    Calls Try.prog 4 #[.slice a n c, .slice a' len cap] w fun r w' => r = .returned (.bool true) ∧ Below w.heap.size w w' := by
  obtain ⟨k, hk, hk6, _, hmin⟩ := min_any len 6000 (by decide)
  obtain ⟨hbl, hbr, hbc⟩ := hb.cut hk
  have h1 := hb.cap_le
  have hmx := hb.max
  generalize l0.take k = l at *
  have i0 : (0 : Int) ≤ (k : Int) := by omega
  have i1 : (k : Int) ≤ (len : Int) := by omega
  have i2 : (k : Int) ≤ (cap : Int) := by omega
  have hk6' : k ≤ 6000 := by omega
  have HF := Lib.hid (few_events a n c L w hE hn hm)
  have HE := Lib.hid (fun u (hg : w.grownBy u none) => script_encode a n c L u (hE.grown hg) hn ok hm)
  have HRE := Lib.hid (fun u (hg : w.grownBy u none) => ref_encodeE a n c L u (hE.grown hg) hn ok hm)
  have HD := Lib.hid (fun u (hg : w.grownBy u none) => script_decode a' k cap l u hbl (hbr.old (grown_below hg)) (by omega))
  have HRD := Lib.hid (fun u (hg : w.grownBy u none) => ref_decodeE a' k cap l u hbl (hbr.old (grown_below hg)) hbc hmx)
  obtain ⟨⟨lb, eb⟩, he⟩ : ∃ t, encE L = t := ⟨_, rfl⟩
  obtain ⟨⟨M, ed⟩, hd⟩ : ∃ t, decE l = t := ⟨_, rfl⟩
  rw [he] at HE HRE
  have HML := Lib.hid (dec_few l)
  rw [hd] at HD HRD HML
  have SL := strB_list
  have hnm : n ≤ 9223372036854775807 := hm
  clear hE hn hm ok hb hbl hbr hbc hk6 hmx he hd h1
  go_enter Try.func4, Try.ntmps4
  go_wp2_with fail
  refine HF.out.mono ?_
  rintro r w1 ⟨fw, rfl, hg1, _⟩
  have HG1 := Lib.hid hg1
  clear hg1
  have hcase : fw = false ∨ (fw = true ∧ (200 : Int) < (n : Int)) ∨ (fw = true ∧ (n : Int) ≤ 200) := by
    cases fw
    · exact .inl rfl
    · rcases Nat.lt_or_ge 200 n with h | h
      · exact .inr (.inl ⟨rfl, by omega⟩)
      · exact .inr (.inr ⟨rfl, by omega⟩)
  rcases hcase with rfl | ⟨rfl, h2⟩ | ⟨rfl, h2⟩
  · go_wp2_with fail
    refine (script_works _).mono ?_
    rintro r w2 ⟨rfl, hg2⟩
    have HG2 := Lib.hid (grown_trans HG1.out hg2)
    clear hg2
    go_wp2_with fail
    go_ret
    exact ⟨rfl, grown_below HG2.out⟩
  · go_wp2_with fail
    refine (script_works _).mono ?_
    rintro r w2 ⟨rfl, hg2⟩
    have HG2 := Lib.hid (grown_trans HG1.out hg2)
    clear hg2
    go_wp2_with fail
    go_ret
    exact ⟨rfl, grown_below HG2.out⟩
  · go_wp2_with fail
    refine (HE.out _ HG1.out).mono ?_
    rintro r w2 ⟨a2, n2, c2, rfl, hn2, hr2, hg2⟩
    have HN2 := Lib.hid hn2; have HR2 := Lib.hid hr2; have HG2 := Lib.hid (grown_trans HG1.out hg2)
    clear hn2 hr2 hg2
    go_wp2_with fail
    refine (HRE.out _ HG2.out).mono ?_
    rintro r w3 ⟨a3, n3, c3, rfl, hn3, hr3, hg3⟩
    have HN3 := Lib.hid hn3; have HR3 := Lib.hid hr3; have HG3 := Lib.hid (grown_trans HG2.out hg3); have HR23 := Lib.hid (HR2.out.old (grown_below hg3))
    clear hn3 hr3 hg3
    go_wp2_with fail
    refine (HD.out _ HG3.out).mono ?_
    rintro r w4 ⟨a4, n4, c4, rfl, hn4, hl4, hg4⟩
    have HN4 := Lib.hid hn4; have HL4 := Lib.hid hl4; have HG4 := Lib.hid (grown_trans HG3.out hg4); have HR24 := Lib.hid (HR23.out.old (grown_below hg4)); have HR34 := Lib.hid (HR3.out.old (grown_below hg4))
    clear hn4 hl4 hg4
    go_wp2_with fail
    refine (HRD.out _ HG4.out).mono ?_
    rintro r w5 ⟨a5, n5, c5, rfl, hn5, hl5, hg5⟩
    have hs2 := string_bytes a2 n2 c2 _ w5 (HR24.out.old (grown_below hg5)) HN2.out
    have hs3 := string_bytes a3 n3 c3 _ w5 (HR34.out.old (grown_below hg5)) HN3.out
    obtain rfl : n4 = n5 := HN4.out.symm.trans hn5
    have HSA := Lib.hid (ref_sameAll a4 n4 c4 a5 c5 M w5 (HL4.out.grown hg5) hl5 HN4.out (by
      have h := HML.out
      have := HN4.out
      unfold maxLen
      omega))
    have HG5 := Lib.hid (grown_trans HG4.out hg5)
    clear hn5 hl5 hg5
    go_wp2_with fail
    refine HSA.out.mono ?_
    rintro r w6 ⟨rfl, hg6⟩
    have HG6 := Lib.hid (grown_trans HG5.out hg6)
    clear hg6
    go_wp2_with fail
    refine (script_works _).mono ?_
    rintro r w7 ⟨rfl, hg7⟩
    have HG7 := Lib.hid (grown_trans HG6.out hg7)
    clear hg7
    go_wp2_with fail
    go_ret
    exact ⟨rfl, grown_below HG7.out⟩

end Go.Proofs.Ytomnhgcjdnhijaa
