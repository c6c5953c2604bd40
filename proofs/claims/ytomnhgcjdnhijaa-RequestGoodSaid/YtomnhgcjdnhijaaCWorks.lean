/-
  The chapter's example; the plain configuration may be.
-/
import Derived.Test.YtomnhgcjdnhijaaCPlain
namespace Go.Proofs.Ytomnhgcjdnhijaa
open Go.RowKit
set_option maxRecDepth 100000

theorem gotF_congr {p q : Nat → UInt8} {v : Nat} : ∀ n, (∀ j < n, p j = q j) → ∀ i, gotF p v n i = gotF q v n i := by
  intro n
  induction n with
  | zero => intro _ i; rfl
  | succ n ih =>
    intro h i
    show (gotF p v n i || _) = (gotF q v n i || _)
    rw [ih (fun j hj => h j (by omega)), h n (by omega)]
theorem namedF_congr {p q : Nat → UInt8} {v : Nat} (h : ∀ j < v, p j = q j) : namedF p v = namedF q v := by
  unfold namedF
  rw [gotF_congr v h, gotF_congr v h, gotF_congr v h, gotF_congr v h]
theorem namedF_id {v : Nat} (h1 : 1 ≤ v) (h4 : v ≤ 4) : namedF (fun j => UInt8.ofNat j) v = true := by
  have : v = 1 ∨ v = 2 ∨ v = 3 ∨ v = 4 := by omega
  rcases this with rfl | rfl | rfl | rfl <;> decide
theorem plainN_need_le (s v : Nat) (I H : Int) : 1 ≤ needF (plain0 s v I H 0) ∧ needF (plain0 s v I H 0) ≤ 1024 := by
  have h1 := (needs_le (plain0 s v I H 0)).1
  have h2 : tablesF (plain0 s v I H 0) = 51 := by
    unfold tablesF
    simp only [plain0]
    decide
  unfold needF areaF
  omega
theorem needF_bs (c : ConfP) (b : Int) : needF { c with bs := b } = needF c := rfl
theorem plainN_check (s v : Nat) (I H : Int) (hs : 1 ≤ s ∧ s ≤ 4) (hv : 1 ≤ v ∧ v ≤ 4) (hI : 0 ≤ I) (hH : I ≤ H) : checkF (plainN s v I H) = 0 := by
  have hb := plainN_need_le s v I H
  have hn : numbersF (plainN s v I H) = true := by
    unfold plainN
    generalize needF (plain0 s v I H 0) = z at *
    unfold numbersF btw
    simp [plain0]
    exact ⟨⟨⟨decide_eq_true (by omega), decide_eq_true (by omega)⟩, decide_eq_true (by omega), decide_eq_true (by omega)⟩, decide_eq_true (by omega), decide_eq_true (by omega)⟩
  have hk : (plainN s v I H).D.map (·.k) = keysF (plainN s v I H).sk (plainN s v I H).wa := by
    rw [plainN_D, List.map_map]
    have : ((fun d : DeclP => d.k) ∘ mkD I H) = id := rfl
    rw [this, List.map_id]
    simp only [plainN, plain0]
  have ho : (plainN s v I H).D.any outB = false := by
    rw [plainN_D, List.any_eq_false]
    intro d hd
    obtain ⟨k, _, rfl⟩ := List.mem_map.1 hd
    simp only [outB, mkD]
    split <;> simp <;> omega
  have ha : allNamed (plainN s v I H) = true := by
    unfold allNamed
    rw [List.all_eq_true]
    intro i hi
    have hi' : i < s := by
      have := List.mem_range.1 hi
      simp only [plainN, plain0, Int.toNat_natCast] at this
      exact this
    have h1 : namedF ((plainN s v I H).p i) (plainN s v I H).wa.toNat = namedF (prioF s v 0 i) v := by simp only [plainN, plain0, Int.toNat_natCast]
    rw [h1, namedF_congr (q := fun j => UInt8.ofNat j) (fun j hj => by unfold prioF; rw [if_pos (by omega)]), namedF_id hv.1 hv.2]
  have hN : needF (plainN s v I H) = needF (plain0 s v I H 0) := rfl
  unfold checkF
  rw [if_neg (by rw [hn]; simp), if_neg (by rw [hk]; simp), if_neg (by rw [ho]; simp), if_neg (by rw [ha]; simp), if_neg (by simp only [plainN, plain0]; omega), if_neg (by rw [hN]; simp only [plainN, plain0]; omega)]
theorem plainF_check (x y i h : Int) : checkF (plainFVV x y i h) = 0 :=
  plainN_check _ _ _ _ (clamp4_le x) (clamp4_le y) (Int.le_max_right ..) (Int.le_max_right ..)
theorem plainF_len : (plainFVV 1 1 5 9).D.length = 4 := by
  unfold plainFVV
  rw [plainN_D, List.length_map, keysF_len]
  decide
theorem plainF_heads : headsF (plainFVV 1 1 5 9) = 1 := by
  unfold headsF plainFVV
  simp only [plainN, plain0]
  decide
theorem plainF_area : areaF (plainFVV 1 1 5 9) = 52 := by
  unfold areaF
  rw [plainF_heads]
  unfold tablesF plainFVV
  simp only [plainN, plain0]
  decide
theorem plainF_need : needF (plainFVV 1 1 5 9) = 106 := by
  unfold needF
  rw [plainF_area]
theorem wpList_load_confG {ops : Array Oper} {rest : List Oper} {o : Oper} {a : Act} {w : World} {Q : Exit → Act → World → Prop} (hw : Region.wanted o (yielded ops a.tmps) = true) (x : Operand) (ho : o.op = .load 62 x)
    (g : Nat) (cs : List Value) (hx : a.eval x = .pointer (some ⟨g, 0, none⟩)) (hb : Box w g 62 cs) (hl : cs.length = 26)
    (h : wpList Try.prog ops Q rest (a.put o.dst (.agg cs.toArray)) w) : wpList Try.prog ops Q (o :: rest) a w :=
  wpList_step fun K hK => by
    rw [if_pos hw]
    exact wp_load_mid _ x ho g 0 hx cs _ (range_conf hb) Try.underlying62 rfl (by rw [hl]; exact info_conf) (hK _ _ h)
end Go.Proofs.Ytomnhgcjdnhijaa
