/-
  The plain configuration, by the document: what the two programs build.
-/
import Derived.Test.YtomnhgcjdnhijaaCCheck
import Derived.Deep.WholeRow
namespace Go.Proofs.Ytomnhgcjdnhijaa
open Go.RowKit
set_option maxRecDepth 100000

/-- a number brought between one and four -/
def clamp4 (x : Int) : Nat := if x < 1 then 1 else if 4 < x then 4 else x.toNat
theorem clamp4_le (x : Int) : 1 ≤ clamp4 x ∧ clamp4 x ≤ 4 := by unfold clamp4; split <;> (try split) <;> omega
/-- what is said of a key -/
def mkD (I H : Int) (k : KeyP) : DeclP := ⟨k, 0, if k.1.toNat = 1 then I else 0, H⟩
/-- who serves first, when the rows ahead of s, and m of row s, are written -/
def prioF (s v m : Nat) : Nat → Nat → UInt8 := fun i j => if (i < s ∧ j < v) ∨ (i = s ∧ j < m) then UInt8.ofNat j else 0
def plain0 (s v : Nat) (I H : Int) (bs : Int) : ConfP := ⟨s, v, (keysF s v).map (mkD I H), prioF s v 0, 8, 32, 2, 256, 65536, 256, bs⟩
def plainN (s v : Nat) (I H : Int) : ConfP := plain0 s v I H (needF (plain0 s v I H 0) : Nat)
def plainFVV (x y i h : Int) : ConfP := plainN (clamp4 x) (clamp4 y) (max i 0) (max h (max i 0))
def PlainPost (w : World) (c : ConfP) (r : Ending) (w' : World) : Prop := ∃ a k, r = .returned (.agg #[.int .i64 c.sk, .int .i64 c.wa, .slice a c.D.length k, .int .u8 ((c.p 0 0).toNat : Int), .int .u8 ((c.p 0 1).toNat : Int), .int .u8 ((c.p 0 2).toNat : Int), .int .u8 ((c.p 0 3).toNat : Int), .int .u8 ((c.p 1 0).toNat : Int), .int .u8 ((c.p 1 1).toNat : Int), .int .u8 ((c.p 1 2).toNat : Int), .int .u8 ((c.p 1 3).toNat : Int), .int .u8 ((c.p 2 0).toNat : Int), .int .u8 ((c.p 2 1).toNat : Int), .int .u8 ((c.p 2 2).toNat : Int), .int .u8 ((c.p 2 3).toNat : Int), .int .u8 ((c.p 3 0).toNat : Int), .int .u8 ((c.p 3 1).toNat : Int), .int .u8 ((c.p 3 2).toNat : Int), .int .u8 ((c.p 3 3).toNat : Int), .int .i64 c.sg, .int .i64 c.od, .int .i64 c.rt, .int .i64 c.se, .int .i64 c.ca, .int .i64 c.bl, .int .i64 c.bs]) ∧ DeclList w' a c.D ∧ w.grownBy w' none
/-- a configuration under way: the box's cells -/
def ConfCells (s v : Nat) (a : Option Addr) (n k : Nat) (p : Nat → Nat → UInt8) (bs : Int) : List Value := [.int .i64 (s : Int), .int .i64 (v : Int), .slice a n k, .int .u8 ((p 0 0).toNat : Int), .int .u8 ((p 0 1).toNat : Int), .int .u8 ((p 0 2).toNat : Int), .int .u8 ((p 0 3).toNat : Int), .int .u8 ((p 1 0).toNat : Int), .int .u8 ((p 1 1).toNat : Int), .int .u8 ((p 1 2).toNat : Int), .int .u8 ((p 1 3).toNat : Int), .int .u8 ((p 2 0).toNat : Int), .int .u8 ((p 2 1).toNat : Int), .int .u8 ((p 2 2).toNat : Int), .int .u8 ((p 2 3).toNat : Int), .int .u8 ((p 3 0).toNat : Int), .int .u8 ((p 3 1).toNat : Int), .int .u8 ((p 3 2).toNat : Int), .int .u8 ((p 3 3).toNat : Int), .int .i64 8, .int .i64 32, .int .i64 2, .int .i64 256, .int .i64 65536, .int .i64 256, .int .i64 bs]
theorem ConfCells.p_set (s v : Nat) (a : Option Addr) (n k : Nat) (p : Nat → Nat → UInt8) (bs : Int) {i j : Nat} (hi : i < 4) (hj : j < 4) (x : UInt8) :
    (ConfCells s v a n k p bs).set (3 + i * 4 + j) (.int .u8 (x.toNat : Int)) = ConfCells s v a n k (fun i' j' => if i' = i ∧ j' = j then x else p i' j') bs := by
  have h1 : i = 0 ∨ i = 1 ∨ i = 2 ∨ i = 3 := by omega
  have h2 : j = 0 ∨ j = 1 ∨ j = 2 ∨ j = 3 := by omega
  rcases h1 with rfl | rfl | rfl | rfl <;> rcases h2 with rfl | rfl | rfl | rfl <;> rfl
theorem ConfCells.a_set (s v : Nat) (a : Option Addr) (n k : Nat) (p : Nat → Nat → UInt8) (bs : Int) (a' : Option Addr) (n' k' : Nat) :
    (ConfCells s v a n k p bs).set 2 (.slice a' n' k') = ConfCells s v a' n' k' p bs := rfl
theorem ConfCells.b_set (s v : Nat) (a : Option Addr) (n k : Nat) (p : Nat → Nat → UInt8) (bs bs' : Int) :
    (ConfCells s v a n k p bs).set 25 (.int .i64 bs') = ConfCells s v a n k p bs' := rfl
theorem ConfCells.p_get (s v : Nat) (a : Option Addr) (n k : Nat) (p : Nat → Nat → UInt8) (bs : Int) {i j : Nat} (hi : i < 4) (hj : j < 4) :
    (ConfCells s v a n k p bs)[3 + i * 4 + j]? = some (.int .u8 ((p i j).toNat : Int)) := by
  have h1 : i = 0 ∨ i = 1 ∨ i = 2 ∨ i = 3 := by omega
  have h2 : j = 0 ∨ j = 1 ∨ j = 2 ∨ j = 3 := by omega
  rcases h1 with rfl | rfl | rfl | rfl <;> rcases h2 with rfl | rfl | rfl | rfl <;> rfl
theorem prioF_step (s v m : Nat) : (fun i j => if i = s ∧ j = m then UInt8.ofNat m else prioF s v m i j) = prioF s v (m + 1) := by
  funext i j
  unfold prioF
  by_cases h : i = s ∧ j = m
  · obtain ⟨rfl, rfl⟩ := h
    rw [if_pos ⟨rfl, rfl⟩, if_pos (by omega)]
  · rw [if_neg h]
    exact ite_congr (propext (by omega)) (fun _ => rfl) (fun _ => rfl)
theorem prioF_row (s v : Nat) : prioF s v v = prioF (s + 1) v 0 := by
  funext i j
  unfold prioF
  exact ite_congr (propext (by omega)) (fun _ => rfl) (fun _ => rfl)
theorem prioF_zero (v : Nat) : prioF 0 v 0 = fun _ _ => 0 := by
  funext i j
  unfold prioF
  rw [if_neg (by omega)]
/-- the row of what is said, as the walk lays it -/
theorem OwnR.decls {w : World} {B : Nat} {a : Option Addr} {n c : Nat} {L : List DeclP} (h : OwnR w B 98 6 (.slice a n c) (L.map declL)) : n = L.length ∧ DeclList w a L := by
  obtain ⟨a', c', hv⟩ := h.len
  rw [List.length_map] at hv
  cases hv
  refine ⟨rfl, fun i hi => ?_⟩
  obtain ⟨b, o, e, hc⟩ := h.elems i (by simpa using hi)
  refine ⟨b, o, e, ?_, ?_, ?_, ?_, ?_, ?_⟩
  · have := hc 0 (by decide)
    simpa [declL] using this
  · have := hc 1 (by decide)
    simpa [declL] using this
  · have := hc 2 (by decide)
    simpa [declL] using this
  · have := hc 3 (by decide)
    simpa [declL] using this
  · have := hc 4 (by decide)
    simpa [declL] using this
  · have := hc 5 (by decide)
    simpa [declL] using this
theorem KeyList.kept {w w' : World} {a : Option Addr} {L : List KeyP} {row : Option Nat} (h : KeyList w a L) (hg : w.grownBy w' row) (hne : ∀ x, a = some x → row ≠ some x.block) : KeyList w' a L := by
  intro i hi
  obtain ⟨b, o, e, h0, h1, h2⟩ := h i hi
  have hx := hne _ e
  have hk : ∀ j v, w.cell? ⟨b, j, none⟩ = some v → w'.cell? ⟨b, j, none⟩ = some v := fun j v hv => by
    have hlt : b < w.heap.size := by
      rcases Nat.lt_or_ge b w.heap.size with h | h
      · exact h
      · simp [World.cell?, Array.getElem?_eq_none h] at hv
    rw [← hv]
    unfold World.cell?
    rw [hg.block b hlt (fun e => hx e.symm)]
  exact ⟨b, o, e, hk _ _ h0, hk _ _ h1, hk _ _ h2⟩
/-- where the keys of a list lie: above what was there, below what comes -/
theorem KeyList.below {w : World} {a : Option Addr} {L : List KeyP} (h : KeyList w a L) (hne : L ≠ []) : ∀ x, a = some x → x.block < w.heap.size := by
  intro x hx
  obtain ⟨b, o, e, h0, _⟩ := h 0 (List.length_pos_iff.2 hne)
  rw [hx] at e
  cases e
  rcases Nat.lt_or_ge b w.heap.size with h | h
  · exact h
  · simp [World.cell?, Array.getElem?_eq_none h] at h0
theorem max_i64 (x y m : Int) (h : m = max x y) (u : World) : (Builtin.max_ #[2, 2] 2 #[.int .i64 x, .int .i64 y]).run Try.prog u = .ok (.int .i64 m) u := by
  subst h
  simp only [Builtin.max_, List.foldlM_cons, List.foldlM_nil, Builtin.max2, Sem.run_bind, Sem.run_pure, Result.andThen_ok]
  congr 2
  split <;> omega
theorem max_int (x y m : Int) (h : m = max x y) (u : World) : (Builtin.max_ #[3, 3] 3 #[.int .i64 x, .int .i64 y]).run Try.prog u = .ok (.int .i64 m) u := by
  subst h
  simp only [Builtin.max_, List.foldlM_cons, List.foldlM_nil, Builtin.max2, Sem.run_bind, Sem.run_pure, Result.andThen_ok]
  congr 2
  split <;> omega
theorem one_of {cs : List Value} (h : cs.all (·.oneCell') = true) : cs.toArray.all (·.oneCell') = true := by simpa using h
/-- two boxes, the second written whole -/
theorem two_boxes (w : World) (T : TypeId) (z cs : List Value) (_hl : cs.length = z.length) :
    ∃ w2, ((w.alloc (.cells z.toArray T)).alloc (.cells z.toArray T)).setRow (w.heap.size + 1) cs.toArray = w2 ∧ Box w2 w.heap.size T z ∧ Box w2 (w.heap.size + 1) T cs ∧ w.grownBy w2 none ∧ w2.heap.size = w.heap.size + 2 := by
  refine ⟨(w.alloc (.cells z.toArray T)).alloc (.cells cs.toArray T), ?_, (Box.new w T z _ rfl).alloc _, Box.new _ T cs _ (by simp), growAVV _ _ (World.grownBy_alloc _ _ _), by simp⟩
  have := Go.World.setRow_alloc_new (w.alloc (.cells z.toArray T)) z.toArray cs.toArray T
  simpa using this

end Go.Proofs.Ytomnhgcjdnhijaa
