/-
  What a slice of bytes reads as, and what the given row's own words give of it: lemmas on memory that all walks of this seat share.
-/
import Derived.Test.YtkemocbifancfaaProg
import Derived.WalkKit
import Derived.ProofKit
import Derived.OpenShut
import Derived.ShutString
import Derived.ChangeOld
import Derived.Below
import Derived.Lib.Hide
import Derived.Lib.SmallJoins
import Derived.Lib.SlBytesConst
import Derived.Laws.AppendOwnNone
import Derived.Deep.RegionHeld3
import Derived.Deep.AppendLies
import Derived.Laws.CopyOwn
import Derived.WalkLawsBesides
namespace Go.Proofs.Ytkemocbifancfaa
open Go.ChangeShapes Go.WideShapes Go.ChangeAt Go.RowKit
set_option maxRecDepth 100000

/-- a byte as a cell's value -/
def bval (c : UInt8) : Value := .int .u8 (c.toNat : Int)

/-- from address a on the world holds the bytes l -/
def RB (w : World) (a : Option Addr) (l : List UInt8) : Prop :=
  ∀ i (h : i < l.length), ∃ b o, a = some ⟨b, o, none⟩ ∧ w.cell? ⟨b, o + i, none⟩ = some (bval l[i])

theorem RB.nil (w : World) (a : Option Addr) : RB w a [] := fun i h => absurd h (by simp)

theorem RB.take {w : World} {a : Option Addr} {l : List UInt8} (h : RB w a l) (n : Nat) : RB w a (l.take n) := by
  intro i hi
  rw [List.length_take] at hi
  obtain ⟨b, o, e, hc⟩ := h i (by omega)
  exact ⟨b, o, e, by rw [List.getElem_take]; exact hc⟩

theorem RB.below {B : Nat} {w w' : World} {a : Option Addr} {l : List UInt8} (h : RB w a l) (hb : Below B w w') (ha : ∀ ad, a = some ad → ad.block < B) : RB w' a l := by
  intro i hi
  obtain ⟨b, o, e, hc⟩ := h i hi
  refine ⟨b, o, e, ?_⟩
  rw [hb.cell (p := ⟨b, o + i, none⟩) (show b < B from ha ⟨b, o, none⟩ e)]
  exact hc

/-- what was there when the call began is read as it was -/
theorem RB.old {w w' : World} {a : Option Addr} {l : List UInt8} (h : RB w a l) (hb : Below w.heap.size w w') : RB w' a l := by
  intro i hi
  obtain ⟨b, o, e, hc⟩ := h i hi
  exact ⟨b, o, e, by rw [hb.cell (p := ⟨b, o + i, none⟩) (World.block_lt_of_cell? w _ hc)]; exact hc⟩

/-- a constant's bytes, just laid (a row that bears the run-time's mark) -/
theorem RB.const (w : World) (C : Array Value) (E : TypeId) (fr : Nat × Nat) (l : List UInt8) (n : Nat) (hn : n = w.heap.size) (hC : C = (l.map bval).toArray) : RB (w.alloc (.cells C E fr)) (some ⟨n, 0, none⟩) l := by
  intro i hi
  refine ⟨n, 0, rfl, ?_⟩
  rw [Nat.zero_add, Joins.cell_alloc_mark_at w C E fr n i hn, hC]
  simp [hi]

theorem RB.alloc {w : World} {a : Option Addr} {l : List UInt8} (h : RB w a l) (o : Obj) : RB (w.alloc o) a l := by
  intro i hi
  obtain ⟨b, k, e, hc⟩ := h i hi
  exact ⟨b, k, e, Lib.cell?_alloc_marked o hc⟩

theorem bval_one (l : List UInt8) : ∀ u ∈ l.map bval, u.oneCell' = true := by
  intro u hu
  obtain ⟨c, _, rfl⟩ := List.mem_map.1 hu
  rfl

/-- the slice v, nil or a row of the call's own (its block from B on), owns the bytes l -/
def OwnB (w : World) (B : Nat) (v : Value) (l : List UInt8) : Prop := w.ownsRow B 5 1 v l.length (l.map bval)

/-- what an owned row of bytes reads as -/
theorem RB.of_own {w : World} {B : Nat} {a : Option Addr} {n c : Nat} {l : List UInt8} (h : OwnB w B (.slice a n c) l) : RB w a l := by
  intro i hi
  rcases h.2 with ⟨hv, h0⟩ | ⟨g, cap, cur, hv, hb, hg, hn, hm, hs, ht⟩
  · omega
  · cases hv
    refine ⟨g, 0, rfl, ?_⟩
    rw [Nat.zero_add, cell_of_row w g i cur 5 (0, 0) hg]
    have : (cur.toList.take (l.length * 1))[i]? = (l.map bval)[i]? := by rw [ht]
    rw [List.getElem?_take, if_pos (by omega)] at this
    simpa [hi] using this

theorem OwnB.len {w : World} {B : Nat} {v : Value} {l : List UInt8} (h : OwnB w B v l) : ∃ a n c, v = .slice a n c ∧ l.length = n := by
  rcases h.2 with ⟨hv, h0⟩ | ⟨g, cap, cur, hv, _⟩
  · exact ⟨none, 0, 0, hv, h0⟩
  · exact ⟨_, _, _, hv, rfl⟩

/-- a row just made, empty, with room for n -/
theorem OwnB.made (w : World) (cur : Array Value) (n : Nat) (hn : n ≤ maxLen) (hs : cur.size = n) : OwnB (w.alloc (.cells cur 5)) w.heap.size (.slice (some ⟨w.heap.size, 0, none⟩) 0 n) [] :=
  World.ownsRow_made w cur n (Nat.le_refl _) hn (by omega)
theorem OwnB.nil (w : World) (B : Nat) : OwnB w B (.slice none 0 0) [] := World.ownsRow_nil _ _ _ _
theorem OwnB.lt {w : World} {B : Nat} {v : Value} {l : List UInt8} (h : OwnB w B v l) : ∀ k, v.ownBlock = some k → B ≤ k ∧ k < w.heap.size := World.ownsRow.lt h
theorem OwnB.ne {w : World} {B : Nat} {v : Value} {l : List UInt8} (h : OwnB w B v l) {b : Nat} (hb : b < B) : v.ownBlock ≠ some b := fun e => by have := (h.lt b e).1; omega
theorem OwnB.alloc {w : World} {B : Nat} {v : Value} {l : List UInt8} (h : OwnB w B v l) (o : Obj) : OwnB (w.alloc o) B v l := World.ownsRow.alloc h o
theorem OwnB.kept {w w' : World} {B : Nat} {v : Value} {l : List UInt8} {row : Option Nat} (h : OwnB w B v l) (hg : w.grownBy w' row) (hne : v.ownBlock = none ∨ v.ownBlock ≠ row) : OwnB w' B v l := World.ownsRow.kept h hg hne
/-- what is grown from a world that has grown itself -/
theorem grownBy_alloc_drew {w w' : World} {o : Obj} {row : Option Nat} (h : (w.alloc o).drew.grownBy w' row) : w.grownBy w' row :=
  ⟨h.os, h.tape, h.output, Nat.le_trans (by simp) h.size, fun k hk hne => (h.block k (by simp; omega) hne).trans (Below.heap_alloc w o k hk)⟩

/-- what lies in an owned row stays, where nothing below the heap's size is written -/
theorem OwnB.old {w w' : World} {B : Nat} {v : Value} {l : List UInt8} (h : OwnB w B v l) (hb : Below w.heap.size w w') : OwnB w' B v l :=
  h.kept (row := none) ⟨hb.os, hb.tape, hb.output, hb.size, fun k hk _ => hb.block k hk⟩ (by cases v.ownBlock <;> simp)

/-- A SLICE OF BYTES THAT CAME IN: its address, length and capacity, and the bytes that it reads as. -/
structure InB (w : World) (a : Option Addr) (len cap : Nat) (l : List UInt8) : Prop where
  len_eq : l.length = len
  cap_le : len ≤ cap
  max : cap ≤ maxLen
  nil : a = none → cap = 0
  reads : RB w a l

/-- a list of numbers that fit into bytes is a list of bytes -/
theorem bytes_of_wf (zs : List Int) (h : ∀ n ∈ zs, (Lit.int .u8 n).wf = true) : ∃ l : List UInt8, zs = l.map fun c => (c.toNat : Int) := by
  refine ⟨zs.map fun z => UInt8.ofNat z.toNat, ?_⟩
  rw [List.map_map]
  conv => lhs; rw [← List.map_id zs]
  refine List.map_congr_left fun z hz => ?_
  have hb : 0 ≤ z ∧ z ≤ 255 := by simpa [Lit.wf, IntKind.min, IntKind.max, IntKind.signed, IntKind.bits] using h z hz
  simp only [id_eq, Function.comp_apply, UInt8.toNat_ofNat']
  omega

/-- OPENING AN ARGUMENT of type '[]byte': what its reading gives. -/
theorem open_bytes {H : Type} {enc : TypeId × Value → H} {W : World} {base : Nat} {v : Value} {d : DataW H} {p : List MemPlace}
    (hval : Value.okWide Try.prog W .any base 23 v) (h : DataW.Trod enc Try.prog W 0 (fun _ => true) true 23 v d p) :
    ∃ a len cap l, v = .slice a len cap ∧ InB W a len cap l := by
  obtain ⟨a, len, cap, rfl⟩ := okWide_slice Try.underlying23 hval
  obtain ⟨fuel, hf⟩ := h
  rcases open_ints Try.underlying23 Try.underlying5 (by kernel_rfl) hf with ⟨hcs, _⟩ | ⟨x, l, c, zs, hcs, _, hl, hm, hz, hx, hcell, hwz⟩
  · simp [Value.cells] at hcs
    obtain ⟨rfl, rfl, rfl⟩ := hcs
    exact ⟨none, 0, 0, [], rfl, rfl, by omega, by simp [maxLen], fun _ => rfl, RB.nil _ _⟩
  · simp [Value.cells] at hcs
    obtain ⟨rfl, rfl, rfl⟩ := hcs
    have hzl : zs.length = cap := by simpa using hz
    obtain ⟨bs, rfl⟩ := bytes_of_wf zs hwz
    rw [List.length_map] at hzl
    refine ⟨_, _, _, bs.take len, rfl, ?_, hl, hm, (fun h => by cases h), ?_⟩
    · rw [List.length_take]; omega
    · intro i hi
      rw [List.length_take] at hi
      have h0 := hcell 0 (by rw [List.length_map]; omega)
      have hs : x.spot = none := by simpa [Addr.add] using World.cell?_spot h0
      obtain ⟨b, o, s⟩ := x
      simp only at hs
      subst hs
      refine ⟨b, o, rfl, ?_⟩
      have hi' := hcell i (by rw [List.length_map]; omega)
      rw [Addr.add_lit] at hi'
      rw [hi']
      simp [bval, List.getElem_take, show i < bs.length by omega]

theorem info_u8 : (Try.prog.info? 5).map (fun i => (i.zero, i.size, i.bytes)) = some (some (.int .u8 0), 1, 1) := by kernel_rfl

/-- bytes that a slice reads as, cell by cell -/
theorem RB.cells {w : World} {ad : Addr} {l : List UInt8} (h : RB w (some ad) l) : ∀ j u, (l.map bval)[j]? = some u → w.cell? (ad.add j) = some u := by
  intro j u hu
  have hj : j < l.length := by simpa using (List.getElem?_eq_some_iff.1 hu).1
  obtain ⟨b, o, e, hc⟩ := h j hj
  obtain rfl := Option.some.inj e
  rw [Addr.add_lit, hc]
  simpa [hj] using hu

/-- 'append(s, x...)' of bytes, s nil or the call's own, x whatever reads as bytes. -/
theorem wpList_append_bytes {ops : Array Oper} {rest : List Oper} {o : Oper} {a : Act} {w : World} {Q : Exit → Act → World → Prop} (hg : o.guard = none) (s x : Operand)
    (ho : o.op = .call { callee := .builtin .append, args := #[s, x], argTypes := #[23, 23] })
    (base : Nat) (v : Value) (l : List UInt8) (hs : a.eval s = v) (hown : OwnB w base v l)
    (ao : Option Addr) (m c : Nat) (src : List UInt8) (hx : a.eval x = .slice ao m c) (hr : RB w ao src) (hm : src.length = m) (hnone : ao = none → c = 0)
    (hbytes : l.length + m ≤ 140737488355328) (hbase : base ≤ w.heap.size)
    (K : ∀ v' w', OwnB w' base v' (l ++ src) → w.grownBy w' v.ownBlock → wpList Try.prog ops Q rest (a.put o.dst v') w') :
    wpList Try.prog ops Q (o :: rest) a w := by
  obtain ⟨i, hi, hz0, hz1, hz2⟩ := info_parts info_u8
  have h63 : l.length + m ≤ maxLen := by unfold maxLen; omega
  subst hm
  cases ao with
  | some ad =>
    refine wpList_append_own _ hg s x 23 ho base 5 i (.int .u8 0) 1 1 Try.underlying23 hi hz0 hz1 hz2 rfl (by decide) v l.length (l.map bval) hs hown ad src.length c (src.map bval) hx (by simp) hr.cells (bval_one _) h63 (by omega) hbase ?_
    intro v' w' h1 h2 _
    exact K v' w' (by unfold OwnB; rw [List.length_append, List.map_append]; exact h1) h2
  | none =>
    have h0 : src = [] := by
      cases src with
      | nil => rfl
      | cons y ys => obtain ⟨b, o', e, _⟩ := hr 0 (by simp); cases e
    subst h0
    obtain rfl := hnone rfl
    refine wpList_append_own_none hg s x 23 ho base 5 i 1 Try.underlying23 hi v l.length (l.map bval) hs hown hx ?_
    exact K v w (by simpa using hown) (World.grownBy.refl _ _)

/-- The same in a region that draws its order: 'append(s, x...)' of bytes, x at an address. -/
theorem step_append_bytes {ops : Array Oper} {o : Oper} {a : Act} {w : World} {K : Act → World → Prop} {Q : Exit → Act → World → Prop} {E : Prop} (hgd : o.guard = none) (s x : Operand)
    (ho : o.op = .call { callee := .builtin .append, args := #[s, x], argTypes := #[23, 23] })
    (base : Nat) (v : Value) (l : List UInt8) (hs : a.eval s = v) (hown : OwnB w base v l)
    (ad : Addr) (m c : Nat) (src : List UInt8) (hx : a.eval x = .slice (some ad) m c) (hr : RB w (some ad) src) (hm : src.length = m)
    (hbytes : l.length + m ≤ 140737488355328) (hbase : base ≤ w.heap.size)
    (h : ∀ v' w', OwnB w' base v' (l ++ src) → w.grownBy w' v.ownBlock → K (a.put o.dst v') w') :
    if Region.wanted o (yielded ops a.tmps) = true then Oper.wp Try.prog o a w K Q else E := by
  have hw : Region.wanted o (yielded ops a.tmps) = true := by simp [Region.wanted, hgd]
  rw [if_pos hw]
  obtain ⟨i, hi, hz0, hz1, hz2⟩ := info_parts info_u8
  have h63 : l.length + m ≤ maxLen := by unfold maxLen; omega
  subst hm
  refine wp_append_own w s x 23 ho base 5 i (.int .u8 0) 1 1 Try.underlying23 hi hz0 hz1 hz2 rfl (by decide) v l.length (l.map bval) hs hown ad src.length c (src.map bval) hx (by simp) hr.cells (bval_one _) h63 (by omega) hbase ?_
  intro v' w' h1 h2 _
  exact h v' w' (by unfold OwnB; rw [List.length_append, List.map_append]; exact h1) h2

/-- one byte in a block of its own -/
theorem RB.one (w : World) (n : Nat) (hn : n = w.heap.size) (c : UInt8) (E : TypeId) (fr : Nat × Nat) : RB (w.alloc (.cells #[.int .u8 (c.toNat : Int)] E fr)) (some ⟨n, 0, none⟩) [c] :=
  RB.const w _ E fr [c] n hn rfl

theorem RB.drew {w : World} {a : Option Addr} {l : List UInt8} (h : RB w a l) : RB w.drew a l := h
theorem OwnB.drew {w : World} {B : Nat} {v : Value} {l : List UInt8} (h : OwnB w B v l) : OwnB w.drew B v l := h

/-- 'min(len, K)' without a test: some number n, which is one of the two. -/
theorem min_any (len : Nat) (K : Int) (h0 : 0 ≤ K) : ∃ n : Nat, n ≤ len ∧ (n : Int) ≤ K ∧ (n = len ∨ (n : Int) = K) ∧
    ∀ u : World, (Builtin.min_ #[3, 3] 3 #[.int .i64 len, .int .i64 K]).run Try.prog u = .ok (.int .i64 (n : Nat)) u := by
  refine ⟨min len K.toNat, by omega, by omega, by omega, fun u => ?_⟩
  simp only [Builtin.min_, List.foldlM_cons, List.foldlM_nil, Builtin.min2, Sem.run_bind, Sem.run_pure, Result.andThen_ok]
  congr 2
  split <;> omega

/-- a slice that came in, cut to some length -/
theorem InB.cut {w : World} {a : Option Addr} {len cap : Nat} {l : List UInt8} (h : InB w a len cap l) {n : Nat} (hn : n ≤ len) : (l.take n).length = n ∧ RB w a (l.take n) ∧ n ≤ cap :=
  ⟨by rw [List.length_take, h.len_eq]; omega, h.reads.take n, by have := h.cap_le; omega⟩

/-- byte j of an owned row: where it lies, that it may be written, and what the row is then -/
theorem OwnB.at {w : World} {B : Nat} {a : Option Addr} {n c : Nat} {l : List UInt8} (h : OwnB w B (.slice a n c) l) (j : Nat) (hj : j < l.length) :
    ∃ g, a = some ⟨g, 0, none⟩ ∧ w.cell? ⟨g, j, none⟩ = some (bval l[j]) ∧ w.frozen? ⟨g, j, none⟩ = false ∧ B ≤ g ∧
      ∀ x, OwnB (w.setCell ⟨g, j, none⟩ (bval x)) B (.slice a n c) (l.set j x) := by
  have h' := h
  rcases h.2 with ⟨hv, h0⟩ | ⟨g, cap, cur, hv, hb, _⟩
  · omega
  · cases hv
    refine ⟨g, rfl, ?_, World.ownsRow.frozenAt h' j, hb, fun x => ?_⟩
    · rw [World.ownsRow.cellAt h' j (by omega)]
      simp [hj]
    · have := (World.ownsRow.stored h' j (bval x)).1
      unfold OwnB
      rw [List.length_set, List.map_set]
      exact this

/-! ### a block of bytes that is known whole -/
def BlkB (w : World) (g : Nat) (L : List UInt8) : Prop := w.heap[g]? = some (.cells (L.map bval).toArray 5 (0, 0))

theorem BlkB.lt {w : World} {g : Nat} {L : List UInt8} (h : BlkB w g L) : g < w.heap.size := (Array.getElem?_eq_some_iff.1 h).1
theorem BlkB.kept {w w' : World} {g : Nat} {L : List UInt8} {row : Option Nat} (h : BlkB w g L) (hg : w.grownBy w' row) (hne : some g ≠ row) : BlkB w' g L := by
  unfold BlkB; rw [hg.block g h.lt hne]; exact h
theorem BlkB.alloc {w : World} {g : Nat} {L : List UInt8} (h : BlkB w g L) (o : Obj) : BlkB (w.alloc o) g L := h.kept (row := none) (World.grownBy_alloc w o none) (by simp)
theorem BlkB.reads {w : World} {g : Nat} {L : List UInt8} (h : BlkB w g L) (off : Nat) : RB w (some ⟨g, off, none⟩) (L.drop off) := by
  intro i hi
  refine ⟨g, off, rfl, ?_⟩
  rw [cell_of_row w g (off + i) _ 5 (0, 0) h]
  have : off + i < L.length := by rw [List.length_drop] at hi; omega
  simp [this]
theorem BlkB.reads_cut {w : World} {g : Nat} {L : List UInt8} (h : BlkB w g L) (off n : Nat) : RB w (some ⟨g, off, none⟩) ((L.drop off).take n) := (h.reads off).take n
theorem BlkB.zero (w : World) (n : Nat) : BlkB (w.alloc (.cells (madeCells #[.int .u8 0] n) 5)) w.heap.size (List.replicate n 0) := by
  have h : madeCells #[.int .u8 0] n = ((List.replicate n (0 : UInt8)).map bval).toArray := by
    apply Array.ext
    · simp [madeCells]
    · intro i h1 h2
      simp [madeCells, bval, Nat.mod_one]
  unfold BlkB
  rw [h]
  exact heap_alloc_new w _

/-- 'copy(d, s)' of bytes, d lying in a block that is known whole: what it runs to. -/
theorem run_copy_bytes {w : World} {ty : TypeId} (dp sp : Option Addr) (dLen dCap sLen sCap : Nat) (g off : Nat) (L : List UInt8) (hg : BlkB w g L) (src : List UInt8) (hr : RB w sp src) (hn : src.length = sLen)
    (hpos : 0 < dLen → dp = some ⟨g, off, none⟩) (hfit : off + dLen ≤ L.length) :
    ∃ w', (Builtin.copy_ #[23, 23] ty #[.slice dp dLen dCap, .slice sp sLen sCap]).run Try.prog w = .ok (goInt (src.take dLen).length) w' ∧ BlkB w' g (splice L off (src.take dLen)) ∧ w.grownBy w' (some g) := by
  have hsz : (Try.prog.info? 5).map (·.size) = some 1 := by kernel_rfl
  have hmin : (src.take dLen).length = Nat.min sLen dLen := by rw [List.length_take, hn, Nat.min_comm]
  by_cases h0 : (src.take dLen).length = 0
  · have hnil : src.take dLen = [] := List.eq_nil_of_length_eq_zero h0
    refine ⟨w, ?_, by rw [hnil]; simpa [splice] using hg, World.grownBy.refl _ _⟩
    rw [h0]
    exact run_copy_none w _ _ _ 5 dp sp dLen dCap sLen sCap Try.underlying23 hsz (by rw [← hmin]; exact h0)
  · have hdl : 0 < dLen := by
      rcases Nat.eq_zero_or_pos dLen with h' | h'
      · subst h'; simp at h0
      · exact h'
    obtain rfl := hpos hdl
    cases sp with
    | none =>
      exfalso
      cases src with
      | nil => simp at h0
      | cons y ys => obtain ⟨b, o', e, _⟩ := hr 0 (by simp); cases e
    | some ad =>
      have hcells : ∀ j v, ((src.take dLen).map bval)[j]? = some v → w.cell? (ad.add j) = some v := (hr.take dLen).cells
      have hl : off + (src.take dLen).length ≤ L.length := by rw [List.length_take]; omega
      have hrun := run_copy_row (P := Try.prog) w 23 23 ty 5 g off dLen dCap ad sLen sCap _ 5 ((src.take dLen).map bval) Try.underlying23 hsz hg (by rw [List.length_map]; exact hmin) hcells (by simpa using hl) (bval_one _)
      rw [List.length_map] at hrun
      refine ⟨_, hrun, ?_, ⟨rfl, rfl, rfl, by simp [World.setRow], fun k _ hk => setRow_other w g k _ (fun e => hk (by rw [e]))⟩⟩
      unfold BlkB
      rw [setRow_heap w g _ _ 5 _ hg]
      simp [splice]

theorem wp_copy_bytes {w : World} {o : Oper} {a : Act} {K : Act → World → Prop} {Q : Exit → Act → World → Prop} (d s : Operand)
    (ho : o.op = .call { callee := .builtin .copy, args := #[d, s], argTypes := #[23, 23] })
    (dp sp : Option Addr) (dLen dCap sLen sCap : Nat) (hd : a.eval d = .slice dp dLen dCap) (hs : a.eval s = .slice sp sLen sCap)
    (g off : Nat) (L : List UInt8) (hg : BlkB w g L) (src : List UInt8) (hr : RB w sp src) (hn : src.length = sLen)
    (hpos : 0 < dLen → dp = some ⟨g, off, none⟩) (hfit : off + dLen ≤ L.length)
    (h : ∀ w', BlkB w' g (splice L off (src.take dLen)) → w.grownBy w' (some g) → K (a.put o.dst (goInt (src.take dLen).length)) w') :
    Oper.wp Try.prog o a w K Q := by
  obtain ⟨w', hrun, h1, h2⟩ := run_copy_bytes (ty := o.type) dp sp dLen dCap sLen sCap g off L hg src hr hn hpos hfit
  unfold Oper.wp execOp
  simp only [ho, resolve, invoke, builtin, Sem.run_bind, Sem.run_pure, Result.andThen_ok, List.map_toArray, List.map_cons, List.map_nil, hd, hs, hrun]
  exact h w' h1 h2

theorem wpList_copy_bytes {w : World} {ops : Array Oper} {rest : List Oper} {o : Oper} {a : Act} {Q : Exit → Act → World → Prop} (hgd : o.guard = none) (d s : Operand)
    (ho : o.op = .call { callee := .builtin .copy, args := #[d, s], argTypes := #[23, 23] })
    (dp sp : Option Addr) (dLen dCap sLen sCap : Nat) (hd : a.eval d = .slice dp dLen dCap) (hs : a.eval s = .slice sp sLen sCap)
    (g off : Nat) (L : List UInt8) (hg : BlkB w g L) (src : List UInt8) (hr : RB w sp src) (hn : src.length = sLen)
    (hpos : 0 < dLen → dp = some ⟨g, off, none⟩) (hfit : off + dLen ≤ L.length)
    (h : ∀ w', BlkB w' g (splice L off (src.take dLen)) → w.grownBy w' (some g) → wpList Try.prog ops Q rest (a.put o.dst (goInt (src.take dLen).length)) w') :
    wpList Try.prog ops Q (o :: rest) a w :=
  wpList_plain hgd fun _ hK => wp_copy_bytes d s ho dp sp dLen dCap sLen sCap hd hs g off L hg src hr hn hpos hfit fun w' h1 h2 => hK _ _ (h w' h1 h2)

theorem step_copy_bytes {w : World} {ops : Array Oper} {o : Oper} {a : Act} {K : Act → World → Prop} {Q : Exit → Act → World → Prop} {E : Prop} (hgd : o.guard = none) (d s : Operand)
    (ho : o.op = .call { callee := .builtin .copy, args := #[d, s], argTypes := #[23, 23] })
    (dp sp : Option Addr) (dLen dCap sLen sCap : Nat) (hd : a.eval d = .slice dp dLen dCap) (hs : a.eval s = .slice sp sLen sCap)
    (g off : Nat) (L : List UInt8) (hg : BlkB w g L) (src : List UInt8) (hr : RB w sp src) (hn : src.length = sLen)
    (hpos : 0 < dLen → dp = some ⟨g, off, none⟩) (hfit : off + dLen ≤ L.length)
    (h : ∀ w', BlkB w' g (splice L off (src.take dLen)) → w.grownBy w' (some g) → K (a.put o.dst (goInt (src.take dLen).length)) w') :
    if Region.wanted o (yielded ops a.tmps) = true then Oper.wp Try.prog o a w K Q else E := by
  have hw : Region.wanted o (yielded ops a.tmps) = true := by simp [Region.wanted, hgd]
  rw [if_pos hw]
  exact wp_copy_bytes d s ho dp sp dLen dCap sLen sCap hd hs g off L hg src hr hn hpos hfit h

/-! ### max and min without a test -/
theorem max_nat (x : Int) (m : Nat) (h : m = x.toNat) (u : World) : (Builtin.max_ #[3, 3] 3 #[.int .i64 x, .int .i64 0]).run Try.prog u = .ok (.int .i64 (m : Nat)) u := by
  simp only [Builtin.max_, List.foldlM_cons, List.foldlM_nil, Builtin.max2, Sem.run_bind, Sem.run_pure, Result.andThen_ok]
  congr 2
  split <;> omega
theorem min_nat (m : Nat) (K : Int) (n : Nat) (h : n = min m K.toNat) (h0 : 0 ≤ K) (u : World) : (Builtin.min_ #[3, 3] 3 #[.int .i64 m, .int .i64 K]).run Try.prog u = .ok (.int .i64 (n : Nat)) u := by
  simp only [Builtin.min_, List.foldlM_cons, List.foldlM_nil, Builtin.min2, Sem.run_bind, Sem.run_pure, Result.andThen_ok]
  congr 2
  split <;> omega
/-- a number brought between nought and k -/
def clampN (x : Int) (k : Nat) : Nat := min x.toNat k

/-- 'make([]byte, n)' -/
theorem make_bytes (n : Nat) (hn : n ≤ 281474976710656) (u : World) : (Instr.makeSlice 23 (.int .i64 (n : Nat)) (.int .i64 (n : Nat))).run Try.prog u = .ok (.slice (some ⟨u.heap.size, 0, none⟩) n n) (u.alloc (.cells (madeCells #[.int .u8 0] n) 5)) := by
  obtain ⟨i, hi, hz0, hz1, hz2⟩ := info_parts info_u8
  have h := run_make (P := Try.prog) u 23 5 i (.int .u8 0) Try.underlying23 hi hz0 .i64 .i64 (n : Int) (n : Int) (by omega) (Int.le_refl _) (by rw [hz2]; omega) (by omega)
  simpa [hz1, Value.cells] using h

/-! ### worlds that have grown -/
theorem grown_trans {a b c : World} {row : Option Nat} (h : a.grownBy b none) (k : b.grownBy c row) : a.grownBy c row :=
  ⟨k.os.trans h.os, k.tape.trans h.tape, k.output.trans h.output, Nat.le_trans h.size k.size, fun i hi hne => (k.block i (Nat.lt_of_lt_of_le hi h.size) hne).trans (h.block i hi (by simp))⟩
theorem grown_trans' {a b c : World} {row : Option Nat} (h : a.grownBy b row) (k : b.grownBy c none) : a.grownBy c row :=
  ⟨k.os.trans h.os, k.tape.trans h.tape, k.output.trans h.output, Nat.le_trans h.size k.size, fun i hi hne => (k.block i (Nat.lt_of_lt_of_le hi h.size) (by simp)).trans (h.block i hi hne)⟩
theorem grown_same {a b c : World} {row : Option Nat} (h : a.grownBy b row) (k : b.grownBy c row) : a.grownBy c row :=
  ⟨k.os.trans h.os, k.tape.trans h.tape, k.output.trans h.output, Nat.le_trans h.size k.size, fun i hi hne => (k.block i (Nat.lt_of_lt_of_le hi h.size) hne).trans (h.block i hi hne)⟩
theorem grown_any {a b : World} (row : Option Nat) (h : a.grownBy b none) : a.grownBy b row := ⟨h.os, h.tape, h.output, h.size, fun i hi _ => h.block i hi (by simp)⟩
theorem grown_drew {a b : World} {row : Option Nat} (h : a.grownBy b row) : a.grownBy b.drew row := ⟨h.os, h.tape, h.output, h.size, h.block⟩
theorem grown_below {w w' : World} (h : w.grownBy w' none) : Below w.heap.size w w' := ⟨h.os, h.tape, h.output, h.size, fun k hk => h.block k hk (by simp)⟩
/-- what is written above B is not written below -/
theorem grown_above {w w' : World} {g B : Nat} (h : w.grownBy w' (some g)) (hg : B ≤ g) (hB : B ≤ w.heap.size) : Below B w w' :=
  ⟨h.os, h.tape, h.output, h.size, fun k hk => h.block k (by omega) (by simp; omega)⟩
/-- a new block is no old one -/
theorem grown_new {a b c : World} {g : Nat} (h : a.grownBy b none) (hg : a.heap.size ≤ g) (k : b.grownBy c (some g)) : a.grownBy c none :=
  ⟨k.os.trans h.os, k.tape.trans h.tape, k.output.trans h.output, Nat.le_trans h.size k.size, fun i hi _ => (k.block i (Nat.lt_of_lt_of_le hi h.size) (by simp; omega)).trans (h.block i hi (by simp))⟩

theorem RB.oldg {w w' : World} {a : Option Addr} {l : List UInt8} (h : RB w a l) (hg : w.grownBy w' none) : RB w' a l := h.old (grown_below hg)

/-! ### strings of bytes -/
/-- the string of bytes -/
def strB (l : List UInt8) : ByteArray := ⟨l.toArray⟩
theorem fold_push (l : List UInt8) : ∀ s : ByteArray, (l.map fun c => (c.toNat : Int)).foldl (fun r n => r.push (UInt8.ofNat n.toNat)) s = ⟨s.data ++ l.toArray⟩ := by
  induction l with
  | nil => intro s; simp
  | cons c l ih =>
    intro s
    simp only [List.map_cons, List.foldl_cons]
    rw [ih]
    have : UInt8.ofNat ((c.toNat : Int).toNat) = c := by rw [Int.toNat_natCast]; exact UInt8.ofNat_toNat
    rw [this]
    simp [ByteArray.push]

/-- 'string(b)' -/
theorem string_bytes (a : Option Addr) (n c : Nat) (l : List UInt8) (u : World) (hr : RB u a l) (hn : l.length = n) :
    (convert 23 9 (.slice a n c)).run Try.prog u = .ok (.string (strB l)) u := by
  rw [run_convert_bytes_string u _ _ 5 a n c Try.underlying23 Try.underlying5 Try.underlying9]
  cases a with
  | none =>
    have h0 : l = [] := by
      cases l with
      | nil => rfl
      | cons y ys => obtain ⟨b, o', e, _⟩ := hr 0 (by simp); cases e
    subst h0
    rfl
  | some ad =>
    have hl := run_loadCells_list (P := Try.prog) u ad (l.map bval) hr.cells
    rw [List.length_map, hn] at hl
    have := run_bytesToString (P := Try.prog) u ad n c (l.map fun x => (x.toNat : Int)) (by rw [hl, List.map_map]; rfl)
    rw [this, fold_push]
    simp [strB]
theorem strB_inj {a b : List UInt8} (h : strB a = strB b) : a = b := by
  have := congrArg (fun s : ByteArray => s.data.toList) h
  simpa [strB] using this

/-! ### rows of one-cell values that the call itself made -/
/-- the slice v, nil or a row of the call's own (its block from B on), owns the values xs, each one cell of type T -/
def OwnV (w : World) (B : Nat) (T : TypeId) (v : Value) (xs : List Value) : Prop := w.ownsRow B T 1 v xs.length xs
theorem OwnV.nil (w : World) (B : Nat) (T : TypeId) : OwnV w B T (.slice none 0 0) [] := World.ownsRow_nil _ _ _ _
theorem OwnV.lt {w : World} {B : Nat} {T : TypeId} {v : Value} {xs : List Value} (h : OwnV w B T v xs) : ∀ k, v.ownBlock = some k → B ≤ k ∧ k < w.heap.size := World.ownsRow.lt h
theorem OwnV.ne {w : World} {B : Nat} {T : TypeId} {v : Value} {xs : List Value} (h : OwnV w B T v xs) {b : Nat} (hb : b < B) : v.ownBlock ≠ some b := fun e => by have := (h.lt b e).1; omega
theorem OwnV.alloc {w : World} {B : Nat} {T : TypeId} {v : Value} {xs : List Value} (h : OwnV w B T v xs) (o : Obj) : OwnV (w.alloc o) B T v xs := World.ownsRow.alloc h o
theorem OwnV.kept {w w' : World} {B : Nat} {T : TypeId} {v : Value} {xs : List Value} {row : Option Nat} (h : OwnV w B T v xs) (hg : w.grownBy w' row) (hne : v.ownBlock = none ∨ v.ownBlock ≠ row) : OwnV w' B T v xs := World.ownsRow.kept h hg hne
theorem OwnV.drew {w : World} {B : Nat} {T : TypeId} {v : Value} {xs : List Value} (h : OwnV w B T v xs) : OwnV w.drew B T v xs := h
theorem OwnV.grown {w w' : World} {B : Nat} {T : TypeId} {v : Value} {xs : List Value} (h : OwnV w B T v xs) (hg : w.grownBy w' none) : OwnV w' B T v xs := h.kept hg (by cases v.ownBlock <;> simp)
theorem OwnV.len {w : World} {B : Nat} {T : TypeId} {v : Value} {xs : List Value} (h : OwnV w B T v xs) : ∃ a n c, v = .slice a n c ∧ xs.length = n := by
  rcases h.2 with ⟨hv, h0⟩ | ⟨g, cap, cur, hv, _⟩
  · exact ⟨none, 0, 0, hv, h0⟩
  · exact ⟨_, _, _, hv, rfl⟩
theorem OwnV.cell {w : World} {B : Nat} {T : TypeId} {a : Option Addr} {n c : Nat} {xs : List Value} (h : OwnV w B T (.slice a n c) xs) (i : Nat) (hi : i < xs.length) : ∃ g, a = some ⟨g, 0, none⟩ ∧ B ≤ g ∧ w.cell? ⟨g, i, none⟩ = some xs[i] := by
  rcases h.2 with ⟨hv, h0⟩ | ⟨g, cap, cur, hv, hb, hg, hn, hm, hs, ht⟩
  · omega
  · cases hv
    refine ⟨g, rfl, hb, ?_⟩
    rw [cell_of_row w g i cur T (0, 0) hg]
    have : (cur.toList.take (xs.length * 1))[i]? = xs[i]? := by rw [ht]
    rw [List.getElem?_take, if_pos (by omega)] at this
    simpa [hi] using this

/-- 'append(s, u)' of one value; u lies in a block of its own. The row is where it was, or in a new block. -/
theorem wp_append_val {o : Oper} {a : Act} {w : World} {K : Act → World → Prop} {Q : Exit → Act → World → Prop} (s x : Operand) (TS TE : TypeId)
    (ho : o.op = .call { callee := .builtin .append, args := #[s, x], argTypes := #[TS, TS] })
    (hTS : Try.prog.underlying TS = some (.slice TE)) (z : Value) (bytes : Nat) (hinfo : (Try.prog.info? TE).map (fun i => (i.zero, i.size, i.bytes)) = some (some z, 1, bytes)) (hz : z.cells.size = 1)
    (base : Nat) (v : Value) (xs : List Value) (hs : a.eval s = v) (hown : OwnV w base TE v xs)
    (G c : Nat) (u : Value) (fr : Nat × Nat) (hx : a.eval x = .slice (some ⟨G, 0, none⟩) 1 c) (hG : w.heap[G]? = some (.cells #[u] TE fr)) (hu : u.oneCell' = true)
    (hbytes : (xs.length + 1) * bytes ≤ 140737488355328) (hlen : xs.length < 140737488355328) (hbase : base ≤ w.heap.size)
    (h : ∀ g n cap w', xs.length + 1 = n → OwnV w' base TE (.slice (some ⟨g, 0, none⟩) n cap) (xs ++ [u]) → w.grownBy w' v.ownBlock → (v.ownBlock = some g ∨ w.heap.size ≤ g) → K (a.put o.dst (.slice (some ⟨g, 0, none⟩) n cap)) w') :
    Oper.wp Try.prog o a w K Q := by
  obtain ⟨i, hi, hz0, hz1, hz2⟩ := info_parts hinfo
  have h63 : xs.length + 1 ≤ maxLen := by unfold maxLen; omega
  refine wp_append_lies w s x TS ho base TE i z 1 bytes hTS hi hz0 hz1 hz2 hz (by decide) v xs.length xs hs hown ⟨G, 0, none⟩ 1 c [u] hx rfl (World.news_of_block (cs := #[u]) hG) (by simpa using hu) (by omega) h63 hbytes hbase w.heap.size rfl ?_
  intro g cap w' h1 h2 h3 _
  exact h g _ cap w' rfl (by unfold OwnV; rw [List.length_append]; exact h1) h2 (h3.imp id (fun e => by omega))

theorem step_append_val {ops : Array Oper} {o : Oper} {a : Act} {w : World} {K : Act → World → Prop} {Q : Exit → Act → World → Prop} {E : Prop} (hgd : o.guard = none) (s x : Operand) (TS TE : TypeId)
    (ho : o.op = .call { callee := .builtin .append, args := #[s, x], argTypes := #[TS, TS] })
    (hTS : Try.prog.underlying TS = some (.slice TE)) (z : Value) (bytes : Nat) (hinfo : (Try.prog.info? TE).map (fun i => (i.zero, i.size, i.bytes)) = some (some z, 1, bytes)) (hz : z.cells.size = 1)
    (base : Nat) (v : Value) (xs : List Value) (hs : a.eval s = v) (hown : OwnV w base TE v xs)
    (G c : Nat) (u : Value) (fr : Nat × Nat) (hx : a.eval x = .slice (some ⟨G, 0, none⟩) 1 c) (hG : w.heap[G]? = some (.cells #[u] TE fr)) (hu : u.oneCell' = true)
    (hbytes : (xs.length + 1) * bytes ≤ 140737488355328) (hlen : xs.length < 140737488355328) (hbase : base ≤ w.heap.size)
    (h : ∀ g n cap w', xs.length + 1 = n → OwnV w' base TE (.slice (some ⟨g, 0, none⟩) n cap) (xs ++ [u]) → w.grownBy w' v.ownBlock → (v.ownBlock = some g ∨ w.heap.size ≤ g) → K (a.put o.dst (.slice (some ⟨g, 0, none⟩) n cap)) w') :
    if Region.wanted o (yielded ops a.tmps) = true then Oper.wp Try.prog o a w K Q else E := by
  have hw : Region.wanted o (yielded ops a.tmps) = true := by simp [Region.wanted, hgd]
  rw [if_pos hw]
  exact wp_append_val s x TS TE ho hTS z bytes hinfo hz base v xs hs hown G c u fr hx hG hu hbytes hlen hbase h

theorem wpList_append_val {ops : Array Oper} {rest : List Oper} {o : Oper} {a : Act} {w : World} {Q : Exit → Act → World → Prop} (hgd : o.guard = none) (s x : Operand) (TS TE : TypeId)
    (ho : o.op = .call { callee := .builtin .append, args := #[s, x], argTypes := #[TS, TS] })
    (hTS : Try.prog.underlying TS = some (.slice TE)) (z : Value) (bytes : Nat) (hinfo : (Try.prog.info? TE).map (fun i => (i.zero, i.size, i.bytes)) = some (some z, 1, bytes)) (hz : z.cells.size = 1)
    (base : Nat) (v : Value) (xs : List Value) (hs : a.eval s = v) (hown : OwnV w base TE v xs)
    (G c : Nat) (u : Value) (fr : Nat × Nat) (hx : a.eval x = .slice (some ⟨G, 0, none⟩) 1 c) (hG : w.heap[G]? = some (.cells #[u] TE fr)) (hu : u.oneCell' = true)
    (hbytes : (xs.length + 1) * bytes ≤ 140737488355328) (hlen : xs.length < 140737488355328) (hbase : base ≤ w.heap.size)
    (h : ∀ g n cap w', xs.length + 1 = n → OwnV w' base TE (.slice (some ⟨g, 0, none⟩) n cap) (xs ++ [u]) → w.grownBy w' v.ownBlock → (v.ownBlock = some g ∨ w.heap.size ≤ g) → wpList Try.prog ops Q rest (a.put o.dst (.slice (some ⟨g, 0, none⟩) n cap)) w') :
    wpList Try.prog ops Q (o :: rest) a w :=
  wpList_plain hgd fun _ hK => wp_append_val s x TS TE ho hTS z bytes hinfo hz base v xs hs hown G c u fr hx hG hu hbytes hlen hbase fun g n cap w' h0 h1 h2 h3 => hK _ _ (h g n cap w' h0 h1 h2 h3)

/-! ### readings that stay where a set X of blocks alone is written -/
/-- from a on the world holds the bytes l, outside X -/
def RX (w : World) (X : Nat → Prop) (a : Option Addr) (l : List UInt8) : Prop :=
  ∀ i (h : i < l.length), ∃ b o, a = some ⟨b, o, none⟩ ∧ ¬ X b ∧ w.cell? ⟨b, o + i, none⟩ = some (bval l[i])
/-- what lies outside X is as it was -/
structure Kept (X : Nat → Prop) (w w' : World) : Prop where
  os : w'.os = w.os
  tape : w'.tape = w.tape
  output : w'.output = w.output
  size : w.heap.size ≤ w'.heap.size
  block : ∀ k, k < w.heap.size → ¬ X k → w'.heap[k]? = w.heap[k]?
theorem Kept.refl (X : Nat → Prop) (w : World) : Kept X w w := ⟨rfl, rfl, rfl, Nat.le_refl _, fun _ _ _ => rfl⟩
theorem Kept.trans {X : Nat → Prop} {a b c : World} (h : Kept X a b) (k : Kept X b c) : Kept X a c :=
  ⟨k.os.trans h.os, k.tape.trans h.tape, k.output.trans h.output, Nat.le_trans h.size k.size, fun i hi hx => (k.block i (Nat.lt_of_lt_of_le hi h.size) hx).trans (h.block i hi hx)⟩
theorem Kept.of_grown {X : Nat → Prop} {w w' : World} (h : w.grownBy w' none) : Kept X w w' := ⟨h.os, h.tape, h.output, h.size, fun k hk _ => h.block k hk (by simp)⟩
theorem Kept.of_row {X : Nat → Prop} {w w' : World} {g : Nat} (h : w.grownBy w' (some g)) (hg : X g) : Kept X w w' := ⟨h.os, h.tape, h.output, h.size, fun k hk hx => h.block k hk (by intro e; cases e; exact hx hg)⟩
theorem Kept.below {X : Nat → Prop} {w w' : World} {B : Nat} (h : Kept X w w') (hX : ∀ k, X k → B ≤ k) (hB : B ≤ w.heap.size) : Below B w w' := ⟨h.os, h.tape, h.output, h.size, fun k hk => h.block k (by omega) (fun hx => by have := hX k hx; omega)⟩
theorem RX.rb {w : World} {X : Nat → Prop} {a : Option Addr} {l : List UInt8} (h : RX w X a l) : RB w a l := fun i hi => by obtain ⟨b, o, e, _, hc⟩ := h i hi; exact ⟨b, o, e, hc⟩
theorem RX.kept {w w' : World} {X : Nat → Prop} {a : Option Addr} {l : List UInt8} (h : RX w X a l) (hk : Kept X w w') : RX w' X a l := by
  intro i hi
  obtain ⟨b, o, e, hx, hc⟩ := h i hi
  exact ⟨b, o, e, hx, (World.cell?_of_block (a := ⟨b, o + i, none⟩) (hk.block b (World.block_lt_of_cell? w _ hc) hx)).trans hc⟩
theorem RX.of_rb {w : World} {X : Nat → Prop} {a : Option Addr} {l : List UInt8} (h : RB w a l) (hX : ∀ ad, a = some ad → l ≠ [] → ¬ X ad.block) : RX w X a l := by
  intro i hi
  obtain ⟨b, o, e, hc⟩ := h i hi
  exact ⟨b, o, e, hX _ e (by intro h0; subst h0; simp at hi), hc⟩
theorem RX.nil (w : World) (X : Nat → Prop) (a : Option Addr) : RX w X a [] := fun i h => absurd h (by simp)

/-! ### boxes -/
/-- a block of cells that is known whole -/
def Box (w : World) (g : Nat) (T : TypeId) (cs : List Value) : Prop := w.heap[g]? = some (.cells cs.toArray T (0, 0))
theorem Box.lt {w : World} {g : Nat} {T : TypeId} {cs : List Value} (h : Box w g T cs) : g < w.heap.size := (Array.getElem?_eq_some_iff.1 h).1
theorem Box.cell {w : World} {g : Nat} {T : TypeId} {cs : List Value} (h : Box w g T cs) (i : Nat) {u : Value} (hu : cs[i]? = some u) : w.cell? ⟨g, i, none⟩ = some u := by
  rw [cell_of_row w g i _ T (0, 0) h]; simpa using hu
theorem Box.free {w : World} {g : Nat} {T : TypeId} {cs : List Value} (h : Box w g T cs) (i : Nat) : w.frozen? ⟨g, i, none⟩ = false := by
  unfold Box at h
  simp [World.frozen?, h]
theorem Box.kept {w w' : World} {g : Nat} {T : TypeId} {cs : List Value} {row : Option Nat} (h : Box w g T cs) (hg : w.grownBy w' row) (hne : row ≠ some g) : Box w' g T cs := by
  unfold Box; rw [hg.block g h.lt (fun e => hne e.symm)]; exact h
theorem Box.grown {w w' : World} {g : Nat} {T : TypeId} {cs : List Value} (h : Box w g T cs) (hg : w.grownBy w' none) : Box w' g T cs := h.kept hg (by simp)
theorem Box.keptX {X : Nat → Prop} {w w' : World} {g : Nat} {T : TypeId} {cs : List Value} (h : Box w g T cs) (hk : Kept X w w') (hx : ¬ X g) : Box w' g T cs := by
  unfold Box; rw [hk.block g h.lt hx]; exact h
theorem Box.new (w : World) (T : TypeId) (cs : List Value) (n : Nat) (hn : n = w.heap.size) : Box (w.alloc (.cells cs.toArray T)) n T cs := by
  subst hn; exact heap_alloc_new w _
theorem Box.alloc {w : World} {g : Nat} {T : TypeId} {cs : List Value} (h : Box w g T cs) (o : Obj) : Box (w.alloc o) g T cs := h.grown (World.grownBy_alloc w o none)
theorem Box.set {w : World} {g : Nat} {T : TypeId} {cs : List Value} (h : Box w g T cs) (i : Nat) (u : Value) : Box (w.setCell ⟨g, i, none⟩ u) g T (cs.set i u) := by
  unfold Box at *
  simp only [World.setCell, Array.getElem?_modify, h]
  simp
theorem grown_setCell (w : World) (g i : Nat) (u : Value) : w.grownBy (w.setCell ⟨g, i, none⟩ u) (some g) :=
  ⟨rfl, rfl, rfl, by simp [World.setCell], fun k _ hne => Below.heap_setCell w ⟨g, i, none⟩ u k (fun e => hne (by rw [e]))⟩
theorem OwnV.setCell {w : World} {B : Nat} {T : TypeId} {v : Value} {xs : List Value} (h : OwnV w B T v xs) {g i : Nat} (hg : g < B) (u : Value) : OwnV (w.setCell ⟨g, i, none⟩ u) B T v xs :=
  ownsRow_setCell_below h hg u
theorem OwnV.mono {w : World} {B B' : Nat} {T : TypeId} {v : Value} {xs : List Value} (h : OwnV w B T v xs) (hb : B' ≤ B) : OwnV w B' T v xs := Joins.ownsRow_le h hb

theorem Box.drew {w : World} {g : Nat} {T : TypeId} {cs : List Value} (h : Box w g T cs) : Box w.drew g T cs := h
theorem heap_new_at (w : World) (o : Obj) (n : Nat) (hn : n = w.heap.size) : (w.alloc o).heap[n]? = some o := by subst hn; exact heap_alloc_new w o
theorem heap_new_drew (w : World) (o : Obj) (n : Nat) (hn : n = w.heap.size) : (w.alloc o).drew.heap[n]? = some o := heap_new_at w o n hn


end Go.Proofs.Ytkemocbifancfaa
