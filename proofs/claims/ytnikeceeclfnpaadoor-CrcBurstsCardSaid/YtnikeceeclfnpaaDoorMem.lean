/-
  What a slice of bytes reads as, and what the given row's own words give of it: lemmas on memory that all walks of this seat share.
-/
import Derived.Test.YtnikeceeclfnpaaDoorProg
import Derived.WalkKit
import Derived.ProofKit
import Derived.OpenShut
import Derived.ShutString
import Derived.ChangeOld
import Derived.Below
import Derived.Lib.Hide
import Derived.Lib.SmallJoins
import Derived.Lib.SlBytesConst
import Derived.Laws.AppendOwnNone
import Derived.Deep.RegionHeld3
import Derived.Deep.AppendLies
namespace Go.Proofs.YtnikeceeclfnpaaDoor
open Go.ChangeShapes Go.WideShapes Go.ChangeAt Go.RowKit

/-- a byte as a cell's value -/
def bval (c : UInt8) : Value := .int .u8 (c.toNat : Int)

/-- from address a on the world holds the bytes l -/
def RB (w : World) (a : Option Addr) (l : List UInt8) : Prop :=
  ∀ i (h : i < l.length), ∃ b o, a = some ⟨b, o, none⟩ ∧ w.cell? ⟨b, o + i, none⟩ = some (bval l[i])

theorem RB.nil (w : World) (a : Option Addr) : RB w a [] := fun i h => absurd h (by simp)

theorem RB.take {w : World} {a : Option Addr} {l : List UInt8} (h : RB w a l) (n : Nat) : RB w a (l.take n) := by
  intro i hi
  rw [List.length_take] at hi
  obtain ⟨b, o, e, hc⟩ := h i (by omega)
  exact ⟨b, o, e, by rw [List.getElem_take]; exact hc⟩

theorem RB.below {B : Nat} {w w' : World} {a : Option Addr} {l : List UInt8} (h : RB w a l) (hb : Below B w w') (ha : ∀ ad, a = some ad → ad.block < B) : RB w' a l := by
  intro i hi
  obtain ⟨b, o, e, hc⟩ := h i hi
  refine ⟨b, o, e, ?_⟩
  rw [hb.cell (p := ⟨b, o + i, none⟩) (show b < B from ha ⟨b, o, none⟩ e)]
  exact hc

/-- what was there when the call began is read as it was -/
theorem RB.old {w w' : World} {a : Option Addr} {l : List UInt8} (h : RB w a l) (hb : Below w.heap.size w w') : RB w' a l := by
  intro i hi
  obtain ⟨b, o, e, hc⟩ := h i hi
  exact ⟨b, o, e, by rw [hb.cell (p := ⟨b, o + i, none⟩) (World.block_lt_of_cell? w _ hc)]; exact hc⟩

/-- a constant's bytes, just laid (a row that bears the run-time's mark) -/
theorem RB.const (w : World) (C : Array Value) (E : TypeId) (fr : Nat × Nat) (l : List UInt8) (n : Nat) (hn : n = w.heap.size) (hC : C = (l.map bval).toArray) : RB (w.alloc (.cells C E fr)) (some ⟨n, 0, none⟩) l := by
  intro i hi
  refine ⟨n, 0, rfl, ?_⟩
  rw [Nat.zero_add, Joins.cell_alloc_mark_at w C E fr n i hn, hC]
  simp [hi]

theorem RB.alloc {w : World} {a : Option Addr} {l : List UInt8} (h : RB w a l) (o : Obj) : RB (w.alloc o) a l := by
  intro i hi
  obtain ⟨b, k, e, hc⟩ := h i hi
  exact ⟨b, k, e, Lib.cell?_alloc_marked o hc⟩

theorem bval_one (l : List UInt8) : ∀ u ∈ l.map bval, u.oneCell' = true := by
  intro u hu
  obtain ⟨c, _, rfl⟩ := List.mem_map.1 hu
  rfl

/-- the slice v, nil or a row of the call's own (its block from B on), owns the bytes l -/
def OwnB (w : World) (B : Nat) (v : Value) (l : List UInt8) : Prop := w.ownsRow B 5 1 v l.length (l.map bval)

/-- what an owned row of bytes reads as -/
theorem RB.of_own {w : World} {B : Nat} {a : Option Addr} {n c : Nat} {l : List UInt8} (h : OwnB w B (.slice a n c) l) : RB w a l := by
  intro i hi
  rcases h.2 with ⟨hv, h0⟩ | ⟨g, cap, cur, hv, hb, hg, hn, hm, hs, ht⟩
  · omega
  · cases hv
    refine ⟨g, 0, rfl, ?_⟩
    rw [Nat.zero_add, cell_of_row w g i cur 5 (0, 0) hg]
    have : (cur.toList.take (l.length * 1))[i]? = (l.map bval)[i]? := by rw [ht]
    rw [List.getElem?_take, if_pos (by omega)] at this
    simpa [hi] using this

theorem OwnB.len {w : World} {B : Nat} {v : Value} {l : List UInt8} (h : OwnB w B v l) : ∃ a n c, v = .slice a n c ∧ l.length = n := by
  rcases h.2 with ⟨hv, h0⟩ | ⟨g, cap, cur, hv, _⟩
  · exact ⟨none, 0, 0, hv, h0⟩
  · exact ⟨_, _, _, hv, rfl⟩

/-- a row just made, empty, with room for n -/
theorem OwnB.made (w : World) (cur : Array Value) (n : Nat) (hn : n ≤ maxLen) (hs : cur.size = n) : OwnB (w.alloc (.cells cur 5)) w.heap.size (.slice (some ⟨w.heap.size, 0, none⟩) 0 n) [] :=
  World.ownsRow_made w cur n (Nat.le_refl _) hn (by omega)
theorem OwnB.nil (w : World) (B : Nat) : OwnB w B (.slice none 0 0) [] := World.ownsRow_nil _ _ _ _
theorem OwnB.lt {w : World} {B : Nat} {v : Value} {l : List UInt8} (h : OwnB w B v l) : ∀ k, v.ownBlock = some k → B ≤ k ∧ k < w.heap.size := World.ownsRow.lt h
theorem OwnB.ne {w : World} {B : Nat} {v : Value} {l : List UInt8} (h : OwnB w B v l) {b : Nat} (hb : b < B) : v.ownBlock ≠ some b := fun e => by have := (h.lt b e).1; omega
theorem OwnB.alloc {w : World} {B : Nat} {v : Value} {l : List UInt8} (h : OwnB w B v l) (o : Obj) : OwnB (w.alloc o) B v l := World.ownsRow.alloc h o
theorem OwnB.kept {w w' : World} {B : Nat} {v : Value} {l : List UInt8} {row : Option Nat} (h : OwnB w B v l) (hg : w.grownBy w' row) (hne : v.ownBlock = none ∨ v.ownBlock ≠ row) : OwnB w' B v l := World.ownsRow.kept h hg hne
/-- what is grown from a world that has grown itself -/
theorem grownBy_alloc_drew {w w' : World} {o : Obj} {row : Option Nat} (h : (w.alloc o).drew.grownBy w' row) : w.grownBy w' row :=
  ⟨h.os, h.tape, h.output, Nat.le_trans (by simp) h.size, fun k hk hne => (h.block k (by simp; omega) hne).trans (Below.heap_alloc w o k hk)⟩

/-- what lies in an owned row stays, where nothing below the heap's size is written -/
theorem OwnB.old {w w' : World} {B : Nat} {v : Value} {l : List UInt8} (h : OwnB w B v l) (hb : Below w.heap.size w w') : OwnB w' B v l :=
  h.kept (row := none) ⟨hb.os, hb.tape, hb.output, hb.size, fun k hk _ => hb.block k hk⟩ (by cases v.ownBlock <;> simp)

/-- A SLICE OF BYTES THAT CAME IN: its address, length and capacity, and the bytes that it reads as. -/
structure InB (w : World) (a : Option Addr) (len cap : Nat) (l : List UInt8) : Prop where
  len_eq : l.length = len
  cap_le : len ≤ cap
  max : cap ≤ maxLen
  nil : a = none → cap = 0
  reads : RB w a l

/-- a list of numbers that fit into bytes is a list of bytes -/
theorem bytes_of_wf (zs : List Int) (h : ∀ n ∈ zs, (Lit.int .u8 n).wf = true) : ∃ l : List UInt8, zs = l.map fun c => (c.toNat : Int) := by
  refine ⟨zs.map fun z => UInt8.ofNat z.toNat, ?_⟩
  rw [List.map_map]
  conv => lhs; rw [← List.map_id zs]
  refine List.map_congr_left fun z hz => ?_
  have hb : 0 ≤ z ∧ z ≤ 255 := by simpa [Lit.wf, IntKind.min, IntKind.max, IntKind.signed, IntKind.bits] using h z hz
  simp only [id_eq, Function.comp_apply, UInt8.toNat_ofNat']
  omega

/-- OPENING AN ARGUMENT of type '[]byte': what its reading gives. -/
theorem open_bytes {H : Type} {enc : TypeId × Value → H} {W : World} {base : Nat} {v : Value} {d : DataW H} {p : List MemPlace}
    (hval : Value.okWide Tryd.prog W .any base 22 v) (h : DataW.Trod enc Tryd.prog W 0 (fun _ => true) true 22 v d p) :
    ∃ a len cap l, v = .slice a len cap ∧ InB W a len cap l := by
  obtain ⟨a, len, cap, rfl⟩ := okWide_slice Tryd.underlying22 hval
  obtain ⟨fuel, hf⟩ := h
  rcases open_ints Tryd.underlying22 Tryd.underlying5 (by kernel_rfl) hf with ⟨hcs, _⟩ | ⟨x, l, c, zs, hcs, _, hl, hm, hz, hx, hcell, hwz⟩
  · simp [Value.cells] at hcs
    obtain ⟨rfl, rfl, rfl⟩ := hcs
    exact ⟨none, 0, 0, [], rfl, rfl, by omega, by simp [maxLen], fun _ => rfl, RB.nil _ _⟩
  · simp [Value.cells] at hcs
    obtain ⟨rfl, rfl, rfl⟩ := hcs
    have hzl : zs.length = cap := by simpa using hz
    obtain ⟨bs, rfl⟩ := bytes_of_wf zs hwz
    rw [List.length_map] at hzl
    refine ⟨_, _, _, bs.take len, rfl, ?_, hl, hm, (fun h => by cases h), ?_⟩
    · rw [List.length_take]; omega
    · intro i hi
      rw [List.length_take] at hi
      have h0 := hcell 0 (by rw [List.length_map]; omega)
      have hs : x.spot = none := by simpa [Addr.add] using World.cell?_spot h0
      obtain ⟨b, o, s⟩ := x
      simp only at hs
      subst hs
      refine ⟨b, o, rfl, ?_⟩
      have hi' := hcell i (by rw [List.length_map]; omega)
      rw [Addr.add_lit] at hi'
      rw [hi']
      simp [bval, List.getElem_take, show i < bs.length by omega]

theorem info_u8 : (Tryd.prog.info? 5).map (fun i => (i.zero, i.size, i.bytes)) = some (some (.int .u8 0), 1, 1) := by kernel_rfl

/-- bytes that a slice reads as, cell by cell -/
theorem RB.cells {w : World} {ad : Addr} {l : List UInt8} (h : RB w (some ad) l) : ∀ j u, (l.map bval)[j]? = some u → w.cell? (ad.add j) = some u := by
  intro j u hu
  have hj : j < l.length := by simpa using (List.getElem?_eq_some_iff.1 hu).1
  obtain ⟨b, o, e, hc⟩ := h j hj
  obtain rfl := Option.some.inj e
  rw [Addr.add_lit, hc]
  simpa [hj] using hu

/-- 'append(s, x...)' of bytes, s nil or the call's own, x whatever reads as bytes. -/
theorem wpList_append_bytes {ops : Array Oper} {rest : List Oper} {o : Oper} {a : Act} {w : World} {Q : Exit → Act → World → Prop} (hg : o.guard = none) (s x : Operand)
    (ho : o.op = .call { callee := .builtin .append, args := #[s, x], argTypes := #[22, 22] })
    (base : Nat) (v : Value) (l : List UInt8) (hs : a.eval s = v) (hown : OwnB w base v l)
    (ao : Option Addr) (m c : Nat) (src : List UInt8) (hx : a.eval x = .slice ao m c) (hr : RB w ao src) (hm : src.length = m) (hnone : ao = none → c = 0)
    (hbytes : l.length + m ≤ 140737488355328) (hbase : base ≤ w.heap.size)
    (K : ∀ v' w', OwnB w' base v' (l ++ src) → w.grownBy w' v.ownBlock → wpList Tryd.prog ops Q rest (a.put o.dst v') w') :
    wpList Tryd.prog ops Q (o :: rest) a w := by
  obtain ⟨i, hi, hz0, hz1, hz2⟩ := info_parts info_u8
  have h63 : l.length + m ≤ maxLen := by unfold maxLen; omega
  subst hm
  cases ao with
  | some ad =>
    refine wpList_append_own _ hg s x 22 ho base 5 i (.int .u8 0) 1 1 Tryd.underlying22 hi hz0 hz1 hz2 rfl (by decide) v l.length (l.map bval) hs hown ad src.length c (src.map bval) hx (by simp) hr.cells (bval_one _) h63 (by omega) hbase ?_
    intro v' w' h1 h2 _
    exact K v' w' (by unfold OwnB; rw [List.length_append, List.map_append]; exact h1) h2
  | none =>
    have h0 : src = [] := by
      cases src with
      | nil => rfl
      | cons y ys => obtain ⟨b, o', e, _⟩ := hr 0 (by simp); cases e
    subst h0
    obtain rfl := hnone rfl
    refine wpList_append_own_none hg s x 22 ho base 5 i 1 Tryd.underlying22 hi v l.length (l.map bval) hs hown hx ?_
    exact K v w (by simpa using hown) (World.grownBy.refl _ _)

/-- The same in a region that draws its order: 'append(s, x...)' of bytes, x at an address. -/
theorem step_append_bytes {ops : Array Oper} {o : Oper} {a : Act} {w : World} {K : Act → World → Prop} {Q : Exit → Act → World → Prop} {E : Prop} (hgd : o.guard = none) (s x : Operand)
    (ho : o.op = .call { callee := .builtin .append, args := #[s, x], argTypes := #[22, 22] })
    (base : Nat) (v : Value) (l : List UInt8) (hs : a.eval s = v) (hown : OwnB w base v l)
    (ad : Addr) (m c : Nat) (src : List UInt8) (hx : a.eval x = .slice (some ad) m c) (hr : RB w (some ad) src) (hm : src.length = m)
    (hbytes : l.length + m ≤ 140737488355328) (hbase : base ≤ w.heap.size)
    (h : ∀ v' w', OwnB w' base v' (l ++ src) → w.grownBy w' v.ownBlock → K (a.put o.dst v') w') :
    if Region.wanted o (yielded ops a.tmps) = true then Oper.wp Tryd.prog o a w K Q else E := by
  have hw : Region.wanted o (yielded ops a.tmps) = true := by simp [Region.wanted, hgd]
  rw [if_pos hw]
  obtain ⟨i, hi, hz0, hz1, hz2⟩ := info_parts info_u8
  have h63 : l.length + m ≤ maxLen := by unfold maxLen; omega
  subst hm
  refine wp_append_own w s x 22 ho base 5 i (.int .u8 0) 1 1 Tryd.underlying22 hi hz0 hz1 hz2 rfl (by decide) v l.length (l.map bval) hs hown ad src.length c (src.map bval) hx (by simp) hr.cells (bval_one _) h63 (by omega) hbase ?_
  intro v' w' h1 h2 _
  exact h v' w' (by unfold OwnB; rw [List.length_append, List.map_append]; exact h1) h2

/-- one byte in a block of its own -/
theorem RB.one (w : World) (n : Nat) (hn : n = w.heap.size) (c : UInt8) (E : TypeId) (fr : Nat × Nat) : RB (w.alloc (.cells #[.int .u8 (c.toNat : Int)] E fr)) (some ⟨n, 0, none⟩) [c] :=
  RB.const w _ E fr [c] n hn rfl

theorem RB.drew {w : World} {a : Option Addr} {l : List UInt8} (h : RB w a l) : RB w.drew a l := h
theorem OwnB.drew {w : World} {B : Nat} {v : Value} {l : List UInt8} (h : OwnB w B v l) : OwnB w.drew B v l := h

/-- 'min(len, K)' without a test: some number n, which is one of the two. -/
theorem min_any (len : Nat) (K : Int) (h0 : 0 ≤ K) : ∃ n : Nat, n ≤ len ∧ (n : Int) ≤ K ∧ (n = len ∨ (n : Int) = K) ∧
    ∀ u : World, (Builtin.min_ #[3, 3] 3 #[.int .i64 len, .int .i64 K]).run Tryd.prog u = .ok (.int .i64 (n : Nat)) u := by
  refine ⟨min len K.toNat, by omega, by omega, by omega, fun u => ?_⟩
  simp only [Builtin.min_, List.foldlM_cons, List.foldlM_nil, Builtin.min2, Sem.run_bind, Sem.run_pure, Result.andThen_ok]
  congr 2
  split <;> omega

/-- a slice that came in, cut to some length -/
theorem InB.cut {w : World} {a : Option Addr} {len cap : Nat} {l : List UInt8} (h : InB w a len cap l) {n : Nat} (hn : n ≤ len) : (l.take n).length = n ∧ RB w a (l.take n) ∧ n ≤ cap :=
  ⟨by rw [List.length_take, h.len_eq]; omega, h.reads.take n, by have := h.cap_le; omega⟩

/-- byte j of an owned row: where it lies, that it may be written, and what the row is then -/
theorem OwnB.at {w : World} {B : Nat} {a : Option Addr} {n c : Nat} {l : List UInt8} (h : OwnB w B (.slice a n c) l) (j : Nat) (hj : j < l.length) :
    ∃ g, a = some ⟨g, 0, none⟩ ∧ w.cell? ⟨g, j, none⟩ = some (bval l[j]) ∧ w.frozen? ⟨g, j, none⟩ = false ∧ B ≤ g ∧
      ∀ x, OwnB (w.setCell ⟨g, j, none⟩ (bval x)) B (.slice a n c) (l.set j x) := by
  have h' := h
  rcases h.2 with ⟨hv, h0⟩ | ⟨g, cap, cur, hv, hb, _⟩
  · omega
  · cases hv
    refine ⟨g, rfl, ?_, World.ownsRow.frozenAt h' j, hb, fun x => ?_⟩
    · rw [World.ownsRow.cellAt h' j (by omega)]
      simp [hj]
    · have := (World.ownsRow.stored h' j (bval x)).1
      unfold OwnB
      rw [List.length_set, List.map_set]
      exact this

end Go.Proofs.YtnikeceeclfnpaaDoor
