/-
  Events are decoded by the document: one event.
-/
import Derived.Test.YtomnhgcjdnhijaaRefR
import Derived.Test.YtomnhgcjdnhijaaScriptDecW
namespace Go.Proofs.Ytomnhgcjdnhijaa
open Go.RowKit
set_option maxRecDepth 100000

/-- what 'bytes' does -/
def bytesF (e : Int) (l : List UInt8) : List UInt8 × Int × List UInt8 := if e ≠ 0 then ([], e, l) else ((getBytes l 512).1, (getBytes l 512).2.2, (getBytes l 512).2.1)
theorem bytes_same (l : List UInt8) : (getBytes l 512).2.2 = (bytesR 0 l 512).2.1 ∧ ((bytesR 0 l 512).2.1 = 0 → getBytes l 512 = ((bytesR 0 l 512).1, (bytesR 0 l 512).2.2, 0)) := by
  unfold getBytes bytesR
  simp only
  rw [show getNum l 2 = _ from get_num (n := 2) (by decide) (by decide)]
  simp only
  rw [show numR 0 l ((2 : Nat) : Int) = numR 0 l 2 from rfl]
  obtain ⟨⟨x, e, r⟩, h⟩ : ∃ t, numR 0 l 2 = t := ⟨_, rfl⟩
  rw [h]
  simp only
  by_cases he : e = 0
  · subst he
    simp only [ne_eq, not_true_eq_false, if_false, if_true]
    by_cases h5 : (512 : Int) < x
    · simp [h5]
    · by_cases hl : r.length < x
      · simp [h5, takeR, hl]
      · simp [h5, takeR, hl]
  · simp [he]

theorem RX.ofs {w : World} {X : Nat → Prop} {q : Option Addr} {m d : Nat} {l : List UInt8} (h : RS w X q m d l) : RX w X q l := h.rx

set_option maxHeartbeats 800000 in
theorem RR.bytes {w0 w : World} {g : Nat} {s : Int × List UInt8} (R : RR w0 w g s) :
    Calls Try.prog 70 #[.pointer (some ⟨g, 0, none⟩)] w fun r w' => ∃ q m d, r = .returned (.slice q m d) ∧ (bytesF s.1 s.2).1.length = m ∧ RX w' (fun k => w0.heap.size ≤ k) q (bytesF s.1 s.2).1 ∧ RR w0 w' g (bytesF s.1 s.2).2 ∧ w.grownBy w' (some g) := by
  obtain ⟨e, l⟩ := s
  obtain ⟨a, m, c, hb, hr⟩ := R.at'
  have L := hb.look
  have HB := Lib.hid hb; have HR := Lib.hid R
  have HC := Lib.hid (ref_getbytes a m c l 512 w hr)
  have SI := set_idx
  unfold bytesF
  clear hb hr R
  simp only at *
  by_cases he : e = 0
  · subst he
    rw [if_neg (by simp)]
    go_enter Try.func70, Try.ntmps70
    go_wp2_with fail
    refine HC.out.mono ?_
    rintro r w1 ⟨q1, m1, d1, r1, n1, c1, rfl, hqs, hrs, hg⟩
    have HB1 := Lib.hid (HB.out.grown hg)
    have L1 := HB1.out.look
    have O1 := HB1.out.open
    have HRS := Lib.hid hrs; have HG := Lib.hid hg; have HQS := Lib.hid hqs
    clear hrs hg hqs L
    go_wp2_with fail
    go_ret
    have hgs := grown_same (grown_setCell w1 g 0 (.slice r1 n1 c1)) (grown_setCell _ g 1 (.int .i64 (getBytes l 512).2.2))
    have hlow := HR.out.low
    exact ⟨q1, m1, d1, rfl, HQS.out.len, (HQS.out.grownX hgs hlow).rx, ⟨⟨r1, n1, c1, (HB1.out.set 0 _).set 1 _, HRS.out.grownX hgs hlow⟩, hlow, grown_new (grown_trans HR.out.gr HG.out) hlow hgs⟩, grown_trans HG.out hgs⟩
  · rw [if_pos he]
    have h1 : (e != 0) = true := by simpa using he
    have h2 : (e == 0) = false := by simpa using he
    go_enter Try.func70, Try.ntmps70
    go_wp2_with fail
    go_ret
    exact ⟨none, 0, 0, rfl, rfl, RX.nil _ _ _, HR.out, World.grownBy.refl _ _⟩

/-- what 'event' does where nothing is wrong -/
def evG (l : List UInt8) : EvP × Int × List UInt8 :=
  match l with
  | [] => (⟨0, 0, 0, 0, []⟩, 6, [])
  | k :: r =>
    if k.toNat < 1 ∨ 8 < k.toNat then (⟨k, 0, 0, 0, []⟩, 8, r)
    else if k = 1 then (⟨k, 0, 0, 0, (bytesF 0 r).1⟩, (bytesF 0 r).2)
    else if k = 2 ∨ k = 3 then (⟨k, (numF 0 r 4).1, 0, 0, []⟩, (numF 0 r 4).2)
    else if k = 7 then (⟨k, 0, (numF 0 r 2).1, (numF (numF 0 r 2).2.1 (numF 0 r 2).2.2 2).1, []⟩, (numF (numF 0 r 2).2.1 (numF 0 r 2).2.2 2).2)
    else (⟨k, 0, 0, 0, []⟩, 0, r)
theorem evG_evR {k : UInt8} {r : List UInt8} (hk : ¬ (k.toNat < 1 ∨ 8 < k.toNat)) : (evG (k :: r)).2.1 = (evR k r).2.1 ∧ ((evR k r).2.1 = 0 → evG (k :: r) = evR k r) := by
  unfold evG evR
  simp only
  rw [if_neg hk]
  by_cases h1 : k = 1
  · rw [if_pos h1, if_pos h1]
    obtain ⟨b1, b2⟩ := bytes_same r
    unfold bytesF
    rw [if_neg (by simp)]
    refine ⟨b1, fun h => ?_⟩
    rw [b2 h]
    simp only at h ⊢
    rw [show (bytesR 0 r 512).2 = ((bytesR 0 r 512).2.1, (bytesR 0 r 512).2.2) from rfl, h]
  · rw [if_neg h1, if_neg h1]
    by_cases h2 : k = 2 ∨ k = 3
    · rw [if_pos h2, if_pos h2, show numF 0 r 4 = _ from num_same (n := 4) (by decide) (by decide)]
      refine ⟨rfl, fun h => ?_⟩
      simp only at h ⊢
      rw [show numR 0 r ((4 : Nat) : Int) = numR 0 r 4 from rfl, if_pos h]
    · rw [if_neg h2, if_neg h2]
      by_cases h7 : k = 7
      · rw [if_pos h7, if_pos h7, show numF 0 r 2 = _ from num_same (n := 2) (by decide) (by decide)]
        simp only
        rw [show numR 0 r ((2 : Nat) : Int) = numR 0 r 2 from rfl]
        by_cases he : (numR 0 r 2).2.1 = 0
        · rw [if_pos he, he, show numF 0 (numR 0 r 2).2.2 2 = _ from num_same (n := 2) (by decide) (by decide)]
          refine ⟨rfl, fun h => ?_⟩
          simp only at h ⊢
          rw [show numR 0 (numR 0 r 2).2.2 ((2 : Nat) : Int) = numR 0 (numR 0 r 2).2.2 2 from rfl, if_pos h]
        · rw [if_neg he]
          have e1 : numR (numR 0 r 2).2.1 (numR 0 r 2).2.2 2 = (0, (numR 0 r 2).2.1, (numR 0 r 2).2.2) := numR_ill he _ (n := 2) (by decide) (by decide)
          have e2 : numF (numR 0 r 2).2.1 [] 2 = (0, (numR 0 r 2).2.1, []) := by unfold numF; rw [if_pos he]
          rw [e1, e2]
          exact ⟨rfl, fun h => absurd h he⟩
      · rw [if_neg h7, if_neg h7]
        exact ⟨rfl, fun _ => rfl⟩

end Go.Proofs.Ytomnhgcjdnhijaa
