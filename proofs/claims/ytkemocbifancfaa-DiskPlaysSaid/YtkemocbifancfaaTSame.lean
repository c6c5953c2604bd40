/-
  What is done to a tape, and to the document's; whether they are the same.
-/
import Derived.Test.YtkemocbifancfaaTCopy
import Derived.Test.YtkemocbifancfaaTRefC
import Derived.Test.YtkemocbifancfaaTArgs
import Derived.StillTailTactics
namespace Go.Proofs.Ytkemocbifancfaa
open Go.RowKit
set_option maxRecDepth 100000

/-- the document drops what the tape drops -/
theorem drop_agree (s f n : Nat) (k : Int) (hs : 1 ≤ s) : docN (f * s) s n k = dropN s f n k := by
  unfold docN dropN
  generalize min k ((f * s + n : Nat) : Int) = z
  by_cases h : 0 ≤ z
  · obtain ⟨q, rfl⟩ : ∃ q : Nat, z = q := ⟨z.toNat, by omega⟩
    have h2 : ((q : Int).tdiv (s : Int)) = ((q / s : Nat) : Int) := rfl
    rw [h2, Int.toNat_natCast]
    by_cases h3 : f * s ≤ q
    · rw [show ((q : Int) - ((f * s : Nat) : Int)).toNat = q - f * s by omega, Nat.mul_comm f s, Nat.sub_mul_div]
    · rw [show ((q : Int) - ((f * s : Nat) : Int)).toNat = 0 by omega, Nat.zero_div]
      have h4 : q / s < f := by
        rw [Nat.div_lt_iff_lt_mul (by omega)]
        omega
      omega
  · obtain ⟨q, rfl⟩ : ∃ q : Nat, z = -(q : Int) := ⟨(-z).toNat, by omega⟩
    have h2 : (q : Int).tdiv (s : Int) = ((q / s : Nat) : Int) := rfl
    rw [Int.neg_tdiv, h2, show (-(q : Int) - ((f * s : Nat) : Int)).toNat = 0 by omega, Nat.zero_div]
    generalize q / s = t
    omega
/-- what an act makes of a tape: the number of its first segment, and its bytes -/
def actF (s f : Nat) (l : List UInt8) (k n : Int) : Nat := if k.tmod 4 = 2 then f + dropN s f l.length n else f
def actL (s f : Nat) (l : List UInt8) (k n : Int) (b : List UInt8) : List UInt8 := if k.tmod 4 = 2 then l.drop (dropN s f l.length n * s) else if k.tmod 4 = 3 then cutT s f l n else l ++ b
/-- .. and of the document's -/
def docF (F s : Nat) (l : List UInt8) (k n : Int) : Nat := if k.tmod 4 = 2 then F + docN F s l.length n * s else F
def docL (F s : Nat) (l : List UInt8) (k n : Int) (b : List UInt8) : List UInt8 := if k.tmod 4 = 2 then l.drop (docN F s l.length n * s) else if k.tmod 4 = 3 then cutG F l n else l ++ b
theorem act_agree (s f : Nat) (l b : List UInt8) (k n : Int) (hs : 1 ≤ s) : docF (f * s) s l k n = actF s f l k n * s ∧ docL (f * s) s l k n b = actL s f l k n b := by
  unfold docF docL actF actL
  rw [drop_agree s f l.length n hs]
  constructor
  · split
    · rw [Nat.add_mul]
    · rfl
  · rfl
theorem cut_len (s f : Nat) (l : List UInt8) (x : Int) : (cutT s f l x).length ≤ l.length := by
  unfold cutT
  split
  · exact Nat.le_refl _
  · rw [List.length_take]; omega
theorem act_end (s f : Nat) (l b : List UInt8) (k n : Int) (hs : 1 ≤ s) : actF s f l k n * s + (actL s f l k n b).length ≤ f * s + l.length + b.length := by
  unfold actF actL
  split
  · have h := (drop_le s f l.length n hs).1
    rw [Nat.add_mul, List.length_drop]
    generalize dropN s f l.length n * s = t at *
    omega
  · split
    · have := cut_len s f l n
      omega
    · rw [List.length_append]
      omega
theorem TapeIs.keptX {X : Nat → Prop} {w w' : World} {g M B s f : Nat} {l : List UInt8} {vs : List Value} (h : TapeIs w g M B s f l vs) (hk : Kept X w w') (hX : ∀ k, TX g M vs k → ¬ X k) : TapeIs w' g M B s f l vs := by
  obtain ⟨m', ⟨es, clock, hb, r⟩, hp⟩ := h.map
  refine ⟨h.box.keptX hk (hX g (.inl rfl)), ⟨m', ⟨es, clock, ?_, r⟩, hp⟩, h.len, fun i hi => (h.own i hi).keptX hk (fun k e => hX k (.inr (.inr ⟨_, List.getElem_mem hi, e⟩))), h.apart, h.lo, h.seg⟩
  rw [hk.block M (Array.getElem?_eq_some_iff.1 hb).1 (hX M (.inr (.inl rfl)))]
  exact hb
theorem TapeIs.far {w : World} {g M B s f : Nat} {l : List UInt8} {vs : List Value} (h : TapeIs w g M B s f l vs) : ∀ k, TX g M vs k → k < w.heap.size := by
  intro k hk
  rcases hk with rfl | rfl | ⟨v, hv, e⟩
  · exact h.box.lt
  · exact h.map.lt
  · obtain ⟨i, hi⟩ := List.getElem?_of_mem hv
    have hil := (List.getElem?_eq_some_iff.1 hi).1
    rw [List.getElem?_eq_getElem hil, Option.some.injEq] at hi
    subst hi
    exact ((h.own i hil).lt k e).2
theorem str_ofB {w : World} {a : Option Addr} {n c : Nat} {l : List UInt8} (h : RB w a l) (hn : l.length = n) : ∀ w', w.grownBy w' none → (convert 23 9 (.slice a n c)).run Try.prog w' = .ok (.string (strB l)) w' :=
  fun w' hg => string_bytes a n c l w' (h.oldg hg) hn
theorem look_atB {w : World} {g : Nat} {T : TypeId} {cs : List Value} (hb : Box w g T cs) : ∀ w', w.grownBy w' none → ∀ i, w'.cell? ⟨g, i, none⟩ = cs[i]? := fun _ hg => (hb.grown hg).look
theorem keepT {a b c : World} (k : b.grownBy c none) (h : a.grownBy b none) : a.grownBy c none := grown_trans h k
theorem keepA {a b : World} {o : Obj} (h : a.grownBy b none) : a.grownBy (b.alloc o) none := grown_trans h (World.grownBy_alloc _ _ none)
theorem bytes_all (s f : Nat) (l : List UInt8) : bytesF s f l (-1) = l := by
  unfold bytesF fromQ
  rw [if_neg (by omega), show (max (-1) ((f * s : Nat) : Int)).toNat - f * s = 0 by omega, List.drop_zero]
end Go.Proofs.Ytkemocbifancfaa
