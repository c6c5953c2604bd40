/-
  Events in memory.
-/
import Derived.Test.YtomnhgcjdnhijaaScript
import Derived.Test.YtomnhgcjdnhijaaElems
import Derived.Deep.Slices
import Derived.Lib.SmallJoins
namespace Go.Proofs.Ytomnhgcjdnhijaa
open Go.RowKit Go.ChangeShapes Go.WideShapes Go.ChangeAt Go.Deep
set_option maxRecDepth 100000

/-- an event as plain data -/
structure EvP where
  k : UInt8
  s : Nat
  p : Int
  t : Int
  b : List UInt8
instance : Inhabited EvP := ⟨⟨0, 0, 0, 0, []⟩⟩
structure EvP.ok (e : EvP) : Prop where
  s : e.s < 4294967296
  p : -9223372036854775808 ≤ e.p ∧ e.p ≤ 9223372036854775807
  t : -9223372036854775808 ≤ e.t ∧ e.t ≤ 9223372036854775807
def EvP.good (e : EvP) : Bool := goodE e.k.toNat e.s e.p e.t e.b.length
def EvP.same (e f : EvP) : Bool := sameE e.k.toNat e.s e.p e.t e.b f.k.toNat f.s f.p f.t f.b
def evCells (e : EvP) (q : Option Addr) (n c : Nat) : List Value := [.int .u8 (e.k.toNat : Int), .int .u32 (e.s : Int), .int .i64 e.p, .int .i64 e.t, .slice q n c]
/-- the bytes of an event as they lie -/
structure EvB (w : World) (e : EvP) (q : Option Addr) (n _c : Nat) : Prop where
  len : e.b.length = n
  rb : RB w q e.b
theorem EvB.grown {w w' : World} {e : EvP} {q : Option Addr} {n c : Nat} (h : EvB w e q n c) (hg : w.grownBy w' none) : EvB w' e q n c := ⟨h.len, h.rb.old (grown_below hg)⟩
def EvAt (w : World) (a : Option Addr) (i : Nat) (e : EvP) : Prop :=
  ∃ b o q n c, a = some ⟨b, o, none⟩ ∧ w.cell? ⟨b, o + i * 5, none⟩ = some (.int .u8 (e.k.toNat : Int)) ∧ w.cell? ⟨b, o + i * 5 + 1, none⟩ = some (.int .u32 (e.s : Int)) ∧
    w.cell? ⟨b, o + i * 5 + 2, none⟩ = some (.int .i64 e.p) ∧ w.cell? ⟨b, o + i * 5 + 3, none⟩ = some (.int .i64 e.t) ∧ w.cell? ⟨b, o + i * 5 + 4, none⟩ = some (.slice q n c) ∧ EvB w e q n c
theorem EvAt.grown {w w' : World} {a : Option Addr} {i : Nat} {e : EvP} (h : EvAt w a i e) (hg : w.grownBy w' none) : EvAt w' a i e := by
  obtain ⟨b, o, q, n, c, ha, h0, h1, h2, h3, h4, hb⟩ := h
  exact ⟨b, o, q, n, c, ha, grown_cell hg h0, grown_cell hg h1, grown_cell hg h2, grown_cell hg h3, grown_cell hg h4, hb.grown hg⟩
def EvList (w : World) (a : Option Addr) (L : List EvP) : Prop := ∀ i (h : i < L.length), EvAt w a i L[i]
theorem EvList.grown {w w' : World} {a : Option Addr} {L : List EvP} (h : EvList w a L) (hg : w.grownBy w' none) : EvList w' a L := fun i hi => (h i hi).grown hg

section
variable {H : Type} {enc : TypeId × Value → H} {W : World}
theorem ev_cells : Try.prog.cellsOf 52 = 5 := by kernel_rfl
theorem list5' {α : Type} {cs : List α} (h : cs.length = 5) : ∃ c0 c1 c2 c3 c4, cs = [c0, c1, c2, c3, c4] := by
  match cs, h with
  | [c0, c1, c2, c3, c4], _ => exact ⟨c0, c1, c2, c3, c4, rfl⟩
theorem u8_of {z : Int} (h : (Lit.int .u8 z).wf = true) : ∃ k : UInt8, z = (k.toNat : Int) := by
  have hb : 0 ≤ z ∧ z ≤ 255 := by simpa [Lit.wf, IntKind.min, IntKind.max, IntKind.signed, IntKind.bits] using h
  exact ⟨UInt8.ofNat z.toNat, by simp; omega⟩
theorem u32_of {z : Int} (h : (Lit.int .u32 z).wf = true) : ∃ k : Nat, z = (k : Int) ∧ k < 4294967296 := by
  have hb : 0 ≤ z ∧ z ≤ 4294967295 := by simpa [Lit.wf, IntKind.min, IntKind.max, IntKind.signed, IntKind.bits] using h
  exact ⟨z.toNat, by omega, by omega⟩
theorem i64_of {z : Int} (h : (Lit.int .i64 z).wf = true) : -9223372036854775808 ≤ z ∧ z ≤ 9223372036854775807 := by
  simpa [Lit.wf, IntKind.min, IntKind.max, IntKind.signed, IntKind.bits] using h
theorem ev_of {n : Nat} {cs : List Value} {x : DataW H × List MemPlace} (hf : DataW.trod enc Try.prog W 0 (fun _ => true) true n 52 cs = some x) :
    ∃ e q m c, cs = evCells e q m c ∧ EvB W e q m c ∧ e.ok := by
  obtain ⟨xs, n, _, _, hl, hlen, hff⟩ := DataW.trod_struct Try.underlying52 hf
  rw [ev_cells] at hl
  obtain ⟨c0, c1, c2, c3, c4, hcs⟩ := list5' hl
  obtain ⟨y0, y1, y2, y3, y4, hxs⟩ := list5' (cs := xs) (by simpa using hlen)
  rw [hcs, hxs] at hff
  have k1 : Try.prog.cellsOf 5 = 1 := by kernel_rfl
  have k2 : Try.prog.cellsOf 22 = 1 := by kernel_rfl
  have k3 : Try.prog.cellsOf 3 = 1 := by kernel_rfl
  have k4 : Try.prog.cellsOf 26 = 1 := by kernel_rfl
  have u0 : DataW.trod enc Try.prog W 0 (fun _ => true) true n 5 [c0] = some y0 := by
    have h := hff 0 _ (by rfl)
    simpa [k1, k2, k3, k4] using h
  have u1 : DataW.trod enc Try.prog W 0 (fun _ => true) true n 22 [c1] = some y1 := by
    have h := hff 1 _ (by rfl)
    simpa [k1, k2, k3, k4] using h
  have u2 : DataW.trod enc Try.prog W 0 (fun _ => true) true n 3 [c2] = some y2 := by
    have h := hff 2 _ (by rfl)
    simpa [k1, k2, k3, k4] using h
  have u3 : DataW.trod enc Try.prog W 0 (fun _ => true) true n 3 [c3] = some y3 := by
    have h := hff 3 _ (by rfl)
    simpa [k1, k2, k3, k4] using h
  have u4 : DataW.trod enc Try.prog W 0 (fun _ => true) true n 26 [c4] = some y4 := by
    have h := hff 4 _ (by rfl)
    simpa [k1, k2, k3, k4] using h
  obtain ⟨i0, h0, w0⟩ := DataW.trod_int Try.underlying5 u0
  obtain ⟨i1, h1, w1⟩ := DataW.trod_int Try.underlying22 u1
  obtain ⟨i2, h2, w2⟩ := DataW.trod_int Try.underlying3 u2
  obtain ⟨i3, h3, w3⟩ := DataW.trod_int Try.underlying3 u3
  obtain ⟨q, m, c, l, h4, hin⟩ := bytes_of u4
  simp only [List.cons.injEq, and_true] at h0 h1 h2 h3 h4
  subst h0 h1 h2 h3 h4
  obtain ⟨a0, rfl⟩ := u8_of w0.2
  obtain ⟨a1, rfl, hlt⟩ := u32_of w1.2
  exact ⟨⟨a0, a1, i2, i3, l⟩, q, m, c, hcs, ⟨hin.len_eq, hin.reads⟩, hlt, i64_of w2.2, i64_of w3.2⟩
theorem open_event {base : Nat} {v : Value} {d : DataW H} {p : List MemPlace}
    (hval : Value.okWide Try.prog W .any base 52 v) (h : DataW.Trod enc Try.prog W 0 (fun _ => true) true 52 v d p) :
    ∃ e q m c, v = .agg #[.int .u8 (e.k.toNat : Int), .int .u32 (e.s : Int), .int .i64 e.p, .int .i64 e.t, .slice q m c] ∧ EvB W e q m c ∧ e.ok := by
  obtain ⟨cs, rfl, hsz⟩ := okWide_struct Try.underlying52 hval
  obtain ⟨fuel, hf⟩ := h
  obtain ⟨e, q, m, c, hcs, hb, hok⟩ := ev_of hf
  refine ⟨e, q, m, c, ?_, hb, hok⟩
  obtain ⟨l⟩ := cs
  simp only [Value.cells, evCells] at hcs
  rw [show l = [.int .u8 (e.k.toNat : Int), .int .u32 (e.s : Int), .int .i64 e.p, .int .i64 e.t, .slice q m c] from hcs]
theorem open_events {base : Nat} {v : Value} {d : DataW H} {p : List MemPlace}
    (hval : Value.okWide Try.prog W .any base 39 v) (h : DataW.Trod enc Try.prog W 0 (fun _ => true) true 39 v d p) :
    ∃ (a : Option Addr) (len cap : Nat) (L : List EvP), v = .slice a len cap ∧ L.length = len ∧ len ≤ cap ∧ len ≤ maxLen ∧ EvList W a L ∧ ∀ e ∈ L, e.ok := by
  obtain ⟨a, len, cap, rfl⟩ := okWide_slice Try.underlying39 hval
  obtain ⟨fuel, hf⟩ := h
  rcases open_slice Try.underlying39 hf with ⟨hcs, _⟩ | ⟨x, l, c, m, n, D, Pl, hcs, _, hl, hm, hmm, _, hall⟩
  · simp [Value.cells] at hcs
    obtain ⟨rfl, rfl, rfl⟩ := hcs
    exact ⟨none, 0, 0, [], rfl, rfl, Nat.le_refl _, by simp [maxLen], fun i hi => absurd hi (by simp), fun _ h => by cases h⟩
  · simp [Value.cells] at hcs
    obtain ⟨rfl, rfl, rfl⟩ := hcs
    rw [ev_cells] at hall
    simp only [if_true] at hmm
    subst hmm
    obtain ⟨A, hA⟩ := choose_lt (α := EvP) (n := m) (p := fun i e => ∃ q n c, W.cells? 0 (x.add (i * 5)) 5 = some (evCells e q n c) ∧ EvB W e q n c ∧ e.ok) (fun i hi => by
      obtain ⟨cs', h1, h2⟩ := hall i hi
      obtain ⟨e, q, n, c, rfl, hb, hok⟩ := ev_of h2
      exact ⟨e, q, n, c, h1, hb, hok⟩)
    refine ⟨_, _, _, (List.range len).map A, rfl, by simp, hl, by omega, fun i hi => ?_, fun e he => ?_⟩
    · have hi' : i < len := by simpa using hi
      obtain ⟨q, n', c', h1, hb, _⟩ := hA i (by omega)
      have h2 := (World.cells?_some h1).2.2
      have s0 : x.spot = none := by
        obtain ⟨q0, n0, c0, h10, _⟩ := hA 0 (by omega)
        have := (World.cells?_some h10).2.2 0 (by omega)
        have hq : W.cell? x = some (.int .u8 ((A 0).k.toNat : Int)) := by simpa [Addr.add, evCells] using this
        exact World.cell?_spot hq
      obtain ⟨b, o, s⟩ := x
      simp only at s0
      subst s0
      rw [List.getElem_map, List.getElem_range]
      refine ⟨b, o, q, n', c', rfl, ?_, ?_, ?_, ?_, ?_, hb⟩
      · have := h2 0 (by omega); rw [Addr.add_lit, Addr.add_lit] at this; exact this
      · have := h2 1 (by omega); rw [Addr.add_lit, Addr.add_lit] at this; exact this
      · have := h2 2 (by omega); rw [Addr.add_lit, Addr.add_lit] at this; exact this
      · have := h2 3 (by omega); rw [Addr.add_lit, Addr.add_lit] at this; exact this
      · have := h2 4 (by omega); rw [Addr.add_lit, Addr.add_lit] at this; exact this
    · obtain ⟨i, hi, rfl⟩ := List.mem_map.1 he
      obtain ⟨_, _, _, _, _, hok⟩ := hA i (by have := List.mem_range.1 hi; omega)
      exact hok
end

end Go.Proofs.Ytomnhgcjdnhijaa
