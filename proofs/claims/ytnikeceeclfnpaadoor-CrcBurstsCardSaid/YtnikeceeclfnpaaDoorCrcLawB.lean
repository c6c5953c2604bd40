/-
  The walk through the statement on two texts.
-/
import Derived.Test.YtnikeceeclfnpaaDoorCrcLaws
import Derived.Deep.QuietTactic
import Derived.BigQuiet
namespace Go.Proofs.YtnikeceeclfnpaaDoor
open Go.RowKit

/-- a text cut to at most k bytes -/
theorem cut_bytes {w : World} {a : Option Addr} {len cap : Nat} {l : List UInt8} (h : InB w a len cap l) (k : Nat) :
    ∃ (m : List UInt8) (n : Nat), m = l.take k ∧ m.length = n ∧ n ≤ k ∧ n ≤ cap ∧ RB w a m ∧ (len ≤ k ∧ n = len ∨ ¬ len ≤ k ∧ n = k) := by
  have h1 := h.cap_le
  have h2 := h.len_eq
  by_cases hk : len ≤ k
  · exact ⟨l.take k, len, rfl, by rw [List.length_take]; omega, hk, h1, h.reads.take _, .inl ⟨hk, rfl⟩⟩
  · exact ⟨l.take k, k, rfl, by rw [List.length_take]; omega, Nat.le_refl _, by omega, h.reads.take _, .inr ⟨hk, rfl⟩⟩

set_option maxRecDepth 100000 in
set_option maxHeartbeats 800000 in
theorem parts_walk (a : Option Addr) (len cap : Nat) (l : List UInt8) (a' : Option Addr) (len' cap' : Nat) (l' : List UInt8) (w : World) (hb : InB w a len cap l) (hb' : InB w a' len' cap' l') (hT : Tab w) (hg : 0 < w.heap.size) :
    Calls Tryd.prog 4 #[.slice a len cap, .slice a' len' cap'] w fun e w' => e = .returned (.bool true) ∧ Below w.heap.size w w' := by
  have HT := Lib.hid hT; clear hT
  obtain ⟨m, n, hm0, hn, hnk, hnc, hr, hcut⟩ := cut_bytes hb 1000
  obtain ⟨m', n', hm0', hn', hnk', hnc', hr', hcut'⟩ := cut_bytes hb' 1000
  have h1 := hb.cap_le
  have h2 := hb.max; unfold maxLen at h2
  have h1' := hb'.cap_le
  have h2' := hb'.max; unfold maxLen at h2'
  have hnil := Lib.hid hb.nil
  have hnil' := Lib.hid hb'.nil
  clear hb hb' hm0 hm0'
  have HN := Lib.hid hn; have HR := Lib.hid hr; have HN' := Lib.hid hn'; have HR' := Lib.hid hr'
  clear hn hr hn' hr'
  have HP := Lib.hid (sumF_parts m m'); have HQ := Lib.hid (moreF_nil m)
  rcases hcut with ⟨hlen, rfl⟩ | ⟨hlen, rfl⟩ <;> rcases hcut' with ⟨hlen', rfl⟩ | ⟨hlen', rfl⟩
  all_goals
    go_enter Tryd.func4, Tryd.ntmps4
    go_wp2_with fail
    go_quiet (fail)
    have hbel : Below w.heap.size w (w.drewN nq) := ⟨rfl, rfl, rfl, Nat.le_refl _, fun _ _ => rfl⟩
    generalize w.drewN nq = w1 at *
    generalize hK : (1000 : Nat) = K at *
    have hK1 : K ≤ 1000 := by omega
    clear hK
    go_wp2_with fail
    refine (sum_any _ _ _ m _ HN.out (by omega) (HT.out.below hbel hg) (HR.out.old hbel)).mono ?_
    rintro e w2 ⟨rfl, rfl⟩
    go_wp2_with fail
    refine (more_any _ _ _ _ m' _ HN'.out (by omega) (HT.out.below hbel hg) (HR'.out.old hbel)).mono ?_
    rintro e w2 ⟨rfl, rfl⟩
    rw [HP.out]
    have HO := Lib.hid (OwnB.made w1 #[] 0 (by simp [maxLen]) rfl)
    have hsz := hbel.size
    go_wp2_with (refine wpList_append_bytes (o := ⟨some 21, _, _, _, _, _⟩) rfl _ _ rfl w1.heap.size _ [] rfl HO.out a _ cap m rfl ((HR.out.old hbel).alloc _) HN.out hnil.out (by simp; omega) (by simp) ?_)
    intro v1 w2 ho1 hg1
    have hb2 : Below w1.heap.size w1 w2 := ((Below.refl _ _).alloc (Nat.le_refl _) _).grown hg1 (by simp) (fun k hk => by simp [Value.ownBlock] at hk; omega)
    have hs2 := hb2.size
    have HO1 := Lib.hid ho1
    clear ho1 hg1 HO
    have hlm : m.length ≤ K := by rw [HN.out]; omega
    go_wp2_with (refine wpList_append_bytes (o := ⟨some 23, _, _, _, _, _⟩) rfl _ _ rfl w1.heap.size _ m rfl HO1.out a' _ cap' m' rfl ((HR'.out.old hbel).old hb2) HN'.out hnil'.out (by omega) (by omega) ?_)
    intro v2 w3 ho2 hg2
    have hb3 : Below w1.heap.size w1 w3 := hb2.grown hg2 (by omega) (fun k hk => (HO1.out.lt k hk).1)
    obtain ⟨a2, n2, c2, rfl, hn2⟩ := ho2.len
    have HN2 := Lib.hid hn2
    have hn2' : n2 ≤ K + K := by have := HN'.out; rw [List.length_append] at hn2; omega
    clear hn2 hlm
    have HR2 := Lib.hid (RB.of_own ho2)
    clear ho2 hg2
    have hb4 := hbel.trans (hb3.mono hsz)
    go_wp2_with fail
    refine (sum_any _ _ _ (m ++ m') _ HN2.out (by omega) ((HT.out.below hbel hg).below hb3 (by omega)) HR2.out).mono ?_
    rintro e w4 ⟨rfl, rfl⟩
    go_wp2_with fail
    have hT4 : Hid (Tab w3) := HT.out.below hb4 hg
    have hR4 : Hid (RB w3 a m) := HR.out.old hb4
    refine (sum_any _ _ _ m _ HN.out (by omega) hT4.out hR4.out).mono ?_
    rintro e w4 ⟨rfl, rfl⟩
    go_wp2_with fail
    refine (more_any _ _ 0 _ [] _ rfl (Nat.zero_le _) hT4.out (RB.nil _ _)).mono ?_
    rintro e w4 ⟨rfl, rfl⟩
    rw [HQ.out]
    go_wp2_with fail
    refine (sum_any _ _ _ m _ HN.out (by omega) hT4.out hR4.out).mono ?_
    rintro e w4 ⟨rfl, rfl⟩
    go_wp2_with fail
    refine (crc_works _ hT4.out (by have := hb4.size; omega)).mono ?_
    rintro e w4 ⟨rfl, hb5⟩
    go_wp2_with fail
    go_ret
    exact ⟨rfl, hb4.trans (hb5.mono hb4.size)⟩
end Go.Proofs.YtnikeceeclfnpaaDoor
