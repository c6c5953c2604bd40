/-
  Configurations by small numbers: what they are, and what Check says of them.
-/
import Derived.Test.YtomnhgcjdnhijaaCWorks
namespace Go.Proofs.Ytomnhgcjdnhijaa
open Go.RowKit
set_option maxRecDepth 100000

def mkS (L I H : Int) (k : KeyP) : DeclP := ⟨k, -L, if k.1.toNat = 1 then I else 0, H⟩
/-- who serves first, when the rows ahead of s, and m of row s, are written -/
def turnF (S v t s m : Nat) : Nat → Nat → UInt8 := fun i j => if (i < s ∧ j < v) ∨ (i = s ∧ j < m) then UInt8.ofNat ((j + i + t) % v) else prioF S v 0 i j
structure SmallQ where
  s : Nat
  v : Nat
  I : Int
  H : Int
  L : Int
  t : Nat
  sg : Nat
  od : Nat
  rt : Nat
  se : Nat
  bl : Nat
  ca : Nat
def SmallQ.ok (q : SmallQ) : Prop := (1 ≤ q.s ∧ q.s ≤ 3) ∧ (1 ≤ q.v ∧ q.v ≤ 3) ∧ (0 ≤ q.I ∧ q.I ≤ q.H) ∧ 0 ≤ q.L ∧ (1 ≤ q.sg ∧ q.sg ≤ 8) ∧ (1 ≤ q.od ∧ q.od ≤ 32) ∧ q.rt ≤ 4 ∧ (64 ≤ q.se ∧ q.se ≤ 319) ∧ (64 ≤ q.bl ∧ q.bl ≤ 574) ∧ (q.se < q.ca ∧ q.ca ≤ 65855)
def smallC (q : SmallQ) (ca : Int) (bs : Int) : ConfP := ⟨q.s, q.v, (keysF q.s q.v).map (mkS q.L q.I q.H), turnF q.s q.v q.t q.s 0, q.sg, q.od, q.rt, q.se, ca, q.bl, bs⟩
def smallNeed (q : SmallQ) : Nat := needF (smallC q q.ca 0)
theorem smallC_need (q : SmallQ) (ca bs : Int) : needF (smallC q ca bs) = smallNeed q := rfl
theorem smallNeed_le (q : SmallQ) (h : q.ok) : 2 ≤ smallNeed q ∧ smallNeed q ≤ 1024 := by
  obtain ⟨_, _, _, _, _, _, _, _, ⟨hb, _⟩, _⟩ := h
  have h1 := (needs_le (smallC q q.ca 0)).1
  have h2 : tablesF (smallC q q.ca 0) ≤ 203 := by
    unfold tablesF piecesF
    have h3 : (smallC q q.ca 0).bl = (q.bl : Int) := rfl
    rw [h3, if_neg (by omega), Int.toNat_natCast]
    have h4 := (mostF_le (smallC q q.ca 0).sg (smallC q q.ca 0).od).2
    have h5 : mostF (smallC q q.ca 0).sg (smallC q q.ca 0).od + q.bl - 1 < 204 * q.bl := by omega
    have := Nat.div_lt_of_lt_mul (show mostF (smallC q q.ca 0).sg (smallC q q.ca 0).od + q.bl - 1 < q.bl * 204 by rw [Nat.mul_comm]; exact h5)
    omega
  unfold smallNeed needF areaF
  omega
theorem turn_named {v r : Nat} (h1 : 1 ≤ v) (h3 : v ≤ 3) (hr : r < v) : namedF (fun j => UInt8.ofNat ((j + r) % v)) v = true := by
  have : v = 1 ∨ v = 2 ∨ v = 3 := by omega
  rcases this with rfl | rfl | rfl
  · obtain rfl : r = 0 := by omega
    decide
  · have : r = 0 ∨ r = 1 := by omega
    rcases this with rfl | rfl <;> decide
  · have : r = 0 ∨ r = 1 ∨ r = 2 := by omega
    rcases this with rfl | rfl | rfl <;> decide
theorem btw_true (n lo hi : Int) (h1 : lo ≤ n) (h2 : n ≤ hi) : btw n lo hi = true := by unfold btw; rw [decide_eq_true h1, decide_eq_true h2]; rfl
theorem smallC_parts (q : SmallQ) (h : q.ok) (ca bs : Int) (hc : 1 ≤ ca ∧ ca ≤ 1048576) (hb : 1 ≤ bs ∧ bs ≤ 1024) :
    numbersF (smallC q ca bs) = true ∧ (smallC q ca bs).D.map (·.k) = keysF (smallC q ca bs).sk (smallC q ca bs).wa ∧ (smallC q ca bs).D.any outB = false ∧ allNamed (smallC q ca bs) = true := by
  obtain ⟨h1, h2, h3, h4, h5, h6, h7, h8, h9, h10⟩ := h
  refine ⟨?_, ?_, ?_, ?_⟩
  · unfold numbersF
    simp only [smallC]
    rw [btw_true (q.s : Int) 1 4 (by omega) (by omega), btw_true (q.v : Int) 1 4 (by omega) (by omega), btw_true (q.sg : Int) 1 8 (by omega) (by omega), btw_true (q.od : Int) 1 32 (by omega) (by omega), btw_true (q.rt : Int) 0 4 (by omega) (by omega), btw_true (q.se : Int) 64 4096 (by omega) (by omega), btw_true ca 1 1048576 (by omega) (by omega), btw_true (q.bl : Int) 64 4096 (by omega) (by omega), btw_true bs 1 1024 (by omega) (by omega)]
    rfl
  · simp only [smallC]
    rw [List.map_map]
    have : ((fun d : DeclP => d.k) ∘ mkS q.L q.I q.H) = id := rfl
    rw [this, List.map_id]
  · simp only [smallC]
    rw [List.any_eq_false]
    intro d hd
    obtain ⟨k, _, rfl⟩ := List.mem_map.1 hd
    simp only [outB, mkS]
    split <;> simp <;> omega
  · unfold allNamed
    rw [List.all_eq_true]
    intro i hi
    have hi' : i < q.s := by
      have := List.mem_range.1 hi
      simp only [smallC, Int.toNat_natCast] at this
      exact this
    have e1 : namedF ((smallC q ca bs).p i) (smallC q ca bs).wa.toNat = namedF (turnF q.s q.v q.t q.s 0 i) q.v := by simp only [smallC, Int.toNat_natCast]
    rw [e1, namedF_congr (q := fun j => UInt8.ofNat ((j + (i + q.t) % q.v) % q.v)) (fun j hj => by
      unfold turnF
      rw [if_pos (.inl ⟨hi', hj⟩), Nat.add_assoc, Nat.add_mod_mod]), turn_named h2.1 h2.2 (Nat.mod_lt _ (by omega))]
theorem small_ok (q : SmallQ) (h : q.ok) : checkF (smallC q q.ca (smallNeed q)) = 0 := by
  have hn := smallNeed_le q h
  obtain ⟨p1, p2, p3, p4⟩ := smallC_parts q h q.ca (smallNeed q) (by obtain ⟨_, _, _, _, _, _, _, _, _, _⟩ := h; omega) (by omega)
  obtain ⟨_, _, _, _, _, _, _, _, _, h10⟩ := h
  unfold checkF
  rw [if_neg (by rw [p1]; simp), if_neg (by rw [p2]; simp), if_neg (by rw [p3]; simp), if_neg (by rw [p4]; simp), if_neg (by simp only [smallC]; omega), if_neg (by rw [smallC_need]; simp only [smallC]; omega)]
theorem small_less (q : SmallQ) (h : q.ok) : checkF (smallC q q.ca ((smallNeed q : Int) - 1)) = 4 := by
  have hn := smallNeed_le q h
  obtain ⟨p1, p2, p3, p4⟩ := smallC_parts q h q.ca ((smallNeed q : Int) - 1) (by obtain ⟨_, _, _, _, _, _, _, _, _, _⟩ := h; omega) (by omega)
  obtain ⟨_, _, _, _, _, _, _, _, _, h10⟩ := h
  unfold checkF
  rw [if_neg (by rw [p1]; simp), if_neg (by rw [p2]; simp), if_neg (by rw [p3]; simp), if_neg (by rw [p4]; simp), if_neg (by simp only [smallC]; omega), if_pos (by rw [smallC_need]; simp only [smallC]; omega)]
theorem small_tight (q : SmallQ) (h : q.ok) : checkF (smallC q q.se (smallNeed q)) = 5 := by
  have hn := smallNeed_le q h
  obtain ⟨p1, p2, p3, p4⟩ := smallC_parts q h q.se (smallNeed q) (by obtain ⟨_, _, _, _, _, _, _, _, _, _⟩ := h; omega) (by omega)
  unfold checkF
  rw [if_neg (by rw [p1]; simp), if_neg (by rw [p2]; simp), if_neg (by rw [p3]; simp), if_neg (by rw [p4]; simp), if_pos (by simp only [smallC]; omega)]
/-! ### the list whose first j have the lower bound -/
def lowD (L : Int) (j : Nat) (D : List DeclP) : List DeclP := (D.take j).map (fun d => { d with lo := -L }) ++ D.drop j
theorem lowD_zero (L : Int) (D : List DeclP) : lowD L 0 D = D := by simp [lowD]
theorem lowD_all (L : Int) (D : List DeclP) {n : Nat} (h : D.length ≤ n) : lowD L n D = D.map (fun d => { d with lo := -L }) := by
  unfold lowD
  rw [List.take_of_length_le h, List.drop_of_length_le h, List.append_nil]
theorem lowD_len (L : Int) (j : Nat) (D : List DeclP) : (lowD L j D).length = D.length := by
  unfold lowD
  rw [List.length_append, List.length_map, List.length_take, List.length_drop]
  omega
theorem lowD_get (L : Int) {j : Nat} {D : List DeclP} (h : j < D.length) : (lowD L j D)[j]'(by rw [lowD_len]; exact h) = D[j] := by
  unfold lowD
  rw [List.getElem_append_right (by simp; omega)]
  simp [List.length_take, Nat.min_eq_left (Nat.le_of_lt h)]
theorem lowD_step (L : Int) {j : Nat} {D : List DeclP} (h : j < D.length) : (lowD L j D).set j { D[j] with lo := -L } = lowD L (j + 1) D := by
  unfold lowD
  rw [List.set_append_right _ _ (by simp; omega), List.drop_eq_getElem_cons h]
  have e : j - ((D.take j).map (fun d : DeclP => ({ d with lo := -L } : DeclP))).length = 0 := by simp; omega
  rw [e, List.set_cons_zero, List.take_succ_eq_append_getElem h, List.map_append, List.append_assoc]
  rfl
theorem flatten_set {k : Nat} : ∀ (L : List (List Value)), (∀ c ∈ L, c.length = k) → ∀ i (h : i < L.length) j, j < k → ∀ u, L.flatten.set (i * k + j) u = (L.set i ((L[i]).set j u)).flatten := by
  intro L
  induction L with
  | nil => intro _ i h; simp at h
  | cons c L ih =>
    intro hc i h j hj u
    have h0 := hc c (List.mem_cons_self ..)
    cases i with
    | zero =>
      rw [Nat.zero_mul, Nat.zero_add, List.flatten_cons, List.set_append_left _ _ (by omega)]
      rfl
    | succ i =>
      rw [List.flatten_cons, List.set_append_right _ _ (by rw [h0, Nat.add_mul]; omega), h0, show (i + 1) * k + j - k = i * k + j by rw [Nat.add_mul]; omega,
        ih (fun d hd => hc d (List.mem_cons_of_mem _ hd)) i (by simpa using h) j hj u]
      rfl

end Go.Proofs.Ytomnhgcjdnhijaa
