/-
  What a slice of bytes reads as, and what the given row's own words give of it: lemmas on memory that all walks of this seat share.
-/
import Derived.Test.YtnikeceeclfnpaaDoorProg
import Derived.WalkKit
import Derived.ProofKit
import Derived.OpenShut
import Derived.ShutString
import Derived.ChangeOld
import Derived.Below
import Derived.Lib.Hide
import Derived.Lib.SmallJoins
import Derived.Lib.SlBytesConst
namespace Go.Proofs.YtnikeceeclfnpaaDoor
open Go.ChangeShapes Go.WideShapes Go.ChangeAt Go.RowKit

/-- a byte as a cell's value -/
def bval (c : UInt8) : Value := .int .u8 (c.toNat : Int)

/-- from address a on the world holds the bytes l -/
def RB (w : World) (a : Option Addr) (l : List UInt8) : Prop :=
  ∀ i (h : i < l.length), ∃ b o, a = some ⟨b, o, none⟩ ∧ w.cell? ⟨b, o + i, none⟩ = some (bval l[i])

theorem RB.nil (w : World) (a : Option Addr) : RB w a [] := fun i h => absurd h (by simp)

theorem RB.take {w : World} {a : Option Addr} {l : List UInt8} (h : RB w a l) (n : Nat) : RB w a (l.take n) := by
  intro i hi
  rw [List.length_take] at hi
  obtain ⟨b, o, e, hc⟩ := h i (by omega)
  exact ⟨b, o, e, by rw [List.getElem_take]; exact hc⟩

theorem RB.below {B : Nat} {w w' : World} {a : Option Addr} {l : List UInt8} (h : RB w a l) (hb : Below B w w') (ha : ∀ ad, a = some ad → ad.block < B) : RB w' a l := by
  intro i hi
  obtain ⟨b, o, e, hc⟩ := h i hi
  refine ⟨b, o, e, ?_⟩
  rw [hb.cell (p := ⟨b, o + i, none⟩) (show b < B from ha ⟨b, o, none⟩ e)]
  exact hc

/-- what was there when the call began is read as it was -/
theorem RB.old {w w' : World} {a : Option Addr} {l : List UInt8} (h : RB w a l) (hb : Below w.heap.size w w') : RB w' a l := by
  intro i hi
  obtain ⟨b, o, e, hc⟩ := h i hi
  exact ⟨b, o, e, by rw [hb.cell (p := ⟨b, o + i, none⟩) (World.block_lt_of_cell? w _ hc)]; exact hc⟩

/-- a constant's bytes, just laid (a row that bears the run-time's mark) -/
theorem RB.const (w : World) (C : Array Value) (E : TypeId) (fr : Nat × Nat) (l : List UInt8) (n : Nat) (hn : n = w.heap.size) (hC : C = (l.map bval).toArray) : RB (w.alloc (.cells C E fr)) (some ⟨n, 0, none⟩) l := by
  intro i hi
  refine ⟨n, 0, rfl, ?_⟩
  rw [Nat.zero_add, Joins.cell_alloc_mark_at w C E fr n i hn, hC]
  simp [hi]

theorem RB.alloc {w : World} {a : Option Addr} {l : List UInt8} (h : RB w a l) (o : Obj) : RB (w.alloc o) a l := by
  intro i hi
  obtain ⟨b, k, e, hc⟩ := h i hi
  exact ⟨b, k, e, Lib.cell?_alloc_marked o hc⟩

theorem bval_one (l : List UInt8) : ∀ u ∈ l.map bval, u.oneCell' = true := by
  intro u hu
  obtain ⟨c, _, rfl⟩ := List.mem_map.1 hu
  rfl

/-- what an owned row of bytes reads as -/
theorem RB.of_own {w : World} {B E : Nat} {a : Option Addr} {n c : Nat} {l : List UInt8} (h : w.ownsRow B E 1 (.slice a n c) l.length (l.map bval)) : RB w a l := by
  intro i hi
  rcases h.2 with ⟨hv, h0⟩ | ⟨g, cap, cur, hv, hb, hg, hn, hm, hs, ht⟩
  · omega
  · cases hv
    refine ⟨g, 0, rfl, ?_⟩
    rw [Nat.zero_add, cell_of_row w g i cur E (0, 0) hg]
    have : (cur.toList.take (l.length * 1))[i]? = (l.map bval)[i]? := by rw [ht]
    rw [List.getElem?_take, if_pos (by omega)] at this
    simpa [hi] using this

theorem own_len {w : World} {B E : Nat} {v : Value} {l : List UInt8} (h : w.ownsRow B E 1 v l.length (l.map bval)) : ∃ a c, v = .slice a l.length c := by
  rcases h.2 with ⟨hv, h0⟩ | ⟨g, cap, cur, hv, _⟩
  · exact ⟨none, 0, by rw [hv, h0]⟩
  · exact ⟨_, _, hv⟩

/-- A SLICE OF BYTES THAT CAME IN: its address, length and capacity, and the bytes that it reads as. -/
structure InB (w : World) (a : Option Addr) (len cap : Nat) (l : List UInt8) : Prop where
  len_eq : l.length = len
  cap_le : len ≤ cap
  max : cap ≤ maxLen
  nil : a = none → cap = 0
  reads : RB w a l

/-- a list of numbers that fit into bytes is a list of bytes -/
theorem bytes_of_wf (zs : List Int) (h : ∀ n ∈ zs, (Lit.int .u8 n).wf = true) : ∃ l : List UInt8, zs = l.map fun c => (c.toNat : Int) := by
  refine ⟨zs.map fun z => UInt8.ofNat z.toNat, ?_⟩
  rw [List.map_map]
  conv => lhs; rw [← List.map_id zs]
  refine List.map_congr_left fun z hz => ?_
  have hb : 0 ≤ z ∧ z ≤ 255 := by simpa [Lit.wf, IntKind.min, IntKind.max, IntKind.signed, IntKind.bits] using h z hz
  simp only [id_eq, Function.comp_apply, UInt8.toNat_ofNat']
  omega

/-- OPENING AN ARGUMENT of type '[]byte': what its reading gives. -/
theorem open_bytes {H : Type} {enc : TypeId × Value → H} {W : World} {base : Nat} {v : Value} {d : DataW H} {p : List MemPlace}
    (hval : Value.okWide Tryd.prog W .any base 22 v) (h : DataW.Trod enc Tryd.prog W 0 (fun _ => true) true 22 v d p) :
    ∃ a len cap l, v = .slice a len cap ∧ InB W a len cap l := by
  obtain ⟨a, len, cap, rfl⟩ := okWide_slice Tryd.underlying22 hval
  obtain ⟨fuel, hf⟩ := h
  rcases open_ints Tryd.underlying22 Tryd.underlying5 (by kernel_rfl) hf with ⟨hcs, _⟩ | ⟨x, l, c, zs, hcs, _, hl, hm, hz, hx, hcell, hwz⟩
  · simp [Value.cells] at hcs
    obtain ⟨rfl, rfl, rfl⟩ := hcs
    exact ⟨none, 0, 0, [], rfl, rfl, by omega, by simp [maxLen], fun _ => rfl, RB.nil _ _⟩
  · simp [Value.cells] at hcs
    obtain ⟨rfl, rfl, rfl⟩ := hcs
    have hzl : zs.length = cap := by simpa using hz
    obtain ⟨bs, rfl⟩ := bytes_of_wf zs hwz
    rw [List.length_map] at hzl
    refine ⟨_, _, _, bs.take len, rfl, ?_, hl, hm, (fun h => by cases h), ?_⟩
    · rw [List.length_take]; omega
    · intro i hi
      rw [List.length_take] at hi
      have h0 := hcell 0 (by rw [List.length_map]; omega)
      have hs : x.spot = none := by simpa [Addr.add] using World.cell?_spot h0
      obtain ⟨b, o, s⟩ := x
      simp only at hs
      subst hs
      refine ⟨b, o, rfl, ?_⟩
      have hi' := hcell i (by rw [List.length_map]; omega)
      rw [Addr.add_lit] at hi'
      rw [hi']
      simp [bval, List.getElem_take, show i < bs.length by omega]

end Go.Proofs.YtnikeceeclfnpaaDoor
