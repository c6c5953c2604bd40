/-
  Requests in memory.
-/
import Derived.Test.YtomnhgcjdnhijaaReq
namespace Go.Proofs.Ytomnhgcjdnhijaa
open Go.RowKit Go.ChangeShapes Go.WideShapes Go.ChangeAt Go.Deep
set_option maxRecDepth 100000

structure ReqP where
  k : UInt8
  o : Nat
  p : UInt8
  L : List LineP
  s : UInt8
  f : UInt8
  t : UInt8
  q : Int
instance : Inhabited ReqP := ⟨⟨0, 0, 0, [], 0, 0, 0, 0⟩⟩
def i64ok (z : Int) : Prop := -9223372036854775808 ≤ z ∧ z ≤ 9223372036854775807
structure ReqP.ok (r : ReqP) : Prop where
  o : r.o < 4294967296
  q : i64ok r.q
  L : ∀ x ∈ r.L, i64ok x.2
def ReqP.plain (r : ReqP) : Bool := plainF r.k.toNat r.o r.p.toNat r.L.length r.s.toNat r.f.toNat r.t.toNat r.q
def reqCells (r : ReqP) (a : Option Addr) (n c : Nat) : List Value := [.int .u8 (r.k.toNat : Int), .int .u32 (r.o : Int), .int .u8 (r.p.toNat : Int), .slice a n c, .int .u8 (r.s.toNat : Int), .int .u8 (r.f.toNat : Int), .int .u8 (r.t.toNat : Int), .int .i64 r.q]
structure ReqB (w : World) (r : ReqP) (a : Option Addr) (n _c : Nat) : Prop where
  len : r.L.length = n
  list : LineList w a r.L
  max : n ≤ maxLen
theorem ReqB.grown {w w' : World} {r : ReqP} {a : Option Addr} {n c : Nat} (h : ReqB w r a n c) (hg : w.grownBy w' none) : ReqB w' r a n c := ⟨h.len, h.list.grown hg, h.max⟩

section
variable {H : Type} {enc : TypeId × Value → H} {W : World}
theorem u8_of {z : Int} (h : (Lit.int .u8 z).wf = true) : ∃ k : UInt8, z = (k.toNat : Int) := by
  have hb : 0 ≤ z ∧ z ≤ 255 := by simpa [Lit.wf, IntKind.min, IntKind.max, IntKind.signed, IntKind.bits] using h
  exact ⟨UInt8.ofNat z.toNat, by simp; omega⟩
theorem u32_of {z : Int} (h : (Lit.int .u32 z).wf = true) : ∃ k : Nat, z = (k : Int) ∧ k < 4294967296 := by
  have hb : 0 ≤ z ∧ z ≤ 4294967295 := by simpa [Lit.wf, IntKind.min, IntKind.max, IntKind.signed, IntKind.bits] using h
  exact ⟨z.toNat, by omega, by omega⟩
theorem i64_of {z : Int} (h : (Lit.int .i64 z).wf = true) : i64ok z := by
  unfold i64ok
  simpa [Lit.wf, IntKind.min, IntKind.max, IntKind.signed, IntKind.bits] using h
theorem req_cells : Try.prog.cellsOf 25 = 8 := by kernel_rfl
theorem line_cells : Try.prog.cellsOf 73 = 2 := by kernel_rfl
theorem list8' {α : Type} {cs : List α} (h : cs.length = 8) : ∃ c0 c1 c2 c3 c4 c5 c6 c7, cs = [c0, c1, c2, c3, c4, c5, c6, c7] := by
  match cs, h with
  | [c0, c1, c2, c3, c4, c5, c6, c7], _ => exact ⟨c0, c1, c2, c3, c4, c5, c6, c7, rfl⟩
theorem list2' {α : Type} {cs : List α} (h : cs.length = 2) : ∃ c0 c1, cs = [c0, c1] := by
  match cs, h with
  | [c0, c1], _ => exact ⟨c0, c1, rfl⟩
theorem line_of {n : Nat} {cs : List Value} {x : DataW H × List MemPlace} (hf : DataW.trod enc Try.prog W 0 (fun _ => true) true n 73 cs = some x) : ∃ y : LineP, cs = lineCells y ∧ i64ok y.2 := by
  obtain ⟨xs, n, _, _, hl, hlen, hff⟩ := DataW.trod_struct Try.underlying73 hf
  rw [line_cells] at hl
  obtain ⟨c0, c1, hcs⟩ := list2' hl
  obtain ⟨y0, y1, hxs⟩ := list2' (cs := xs) (by simpa using hlen)
  rw [hcs, hxs] at hff
  have k1 : Try.prog.cellsOf 5 = 1 := by kernel_rfl
  have k2 : Try.prog.cellsOf 2 = 1 := by kernel_rfl
  have u0 : DataW.trod enc Try.prog W 0 (fun _ => true) true n 5 [c0] = some y0 := by
    have h := hff 0 _ (by rfl)
    simpa [k1, k2] using h
  have u1 : DataW.trod enc Try.prog W 0 (fun _ => true) true n 2 [c1] = some y1 := by
    have h := hff 1 _ (by rfl)
    simpa [k1, k2] using h
  obtain ⟨i0, h0, w0⟩ := DataW.trod_int Try.underlying5 u0
  obtain ⟨i1, h1, w1⟩ := DataW.trod_int Try.underlying2 u1
  simp only [List.cons.injEq, and_true] at h0 h1
  subst h0 h1
  obtain ⟨a0, rfl⟩ := u8_of w0.2
  exact ⟨(a0, i1), hcs, i64_of w1.2⟩
theorem lines_of {fuel : Nat} {c : Value} {x : DataW H × List MemPlace} (hf : DataW.trod enc Try.prog W 0 (fun _ => true) true fuel 23 [c] = some x) :
    ∃ (a : Option Addr) (len cap : Nat) (L : List LineP), c = .slice a len cap ∧ L.length = len ∧ len ≤ maxLen ∧ LineList W a L ∧ ∀ x ∈ L, i64ok x.2 := by
  rcases open_slice Try.underlying23 hf with ⟨hcs, _⟩ | ⟨x, l, c, m, n, D, Pl, hcs, _, hl, hm, hmm, _, hall⟩
  · simp at hcs
    subst hcs
    exact ⟨none, 0, 0, [], rfl, rfl, by simp [maxLen], LineList.nil _ _, fun _ h => by cases h⟩
  · simp at hcs
    subst hcs
    rw [line_cells] at hall
    simp only [if_true] at hmm
    subst hmm
    obtain ⟨A, hA⟩ := choose_lt (α := LineP) (n := m) (p := fun i y => W.cells? 0 (x.add (i * 2)) 2 = some (lineCells y) ∧ i64ok y.2) (fun i hi => by
      obtain ⟨cs', h1, h2⟩ := hall i hi
      obtain ⟨y, rfl, hok⟩ := line_of h2
      exact ⟨y, h1, hok⟩)
    refine ⟨_, _, _, (List.range l).map A, rfl, by simp, by omega, fun i hi => ?_, fun e he => ?_⟩
    · have hi' : i < l := by simpa using hi
      obtain ⟨h1, _⟩ := hA i (by omega)
      have h2 := (World.cells?_some h1).2.2
      have s0 : x.spot = none := by
        obtain ⟨h10, _⟩ := hA 0 (by omega)
        have := (World.cells?_some h10).2.2 0 (by omega)
        have hq : W.cell? x = some (.int .u8 ((A 0).1.toNat : Int)) := by simpa [Addr.add, lineCells] using this
        exact World.cell?_spot hq
      obtain ⟨b, o, s⟩ := x
      simp only at s0
      subst s0
      rw [List.getElem_map, List.getElem_range]
      refine ⟨b, o, rfl, ?_, ?_⟩
      · have := h2 0 (by omega); rw [Addr.add_lit, Addr.add_lit] at this; exact this
      · have := h2 1 (by omega); rw [Addr.add_lit, Addr.add_lit] at this; exact this
    · obtain ⟨i, hi, rfl⟩ := List.mem_map.1 he
      exact (hA i (by have := List.mem_range.1 hi; omega)).2
theorem open_request {base : Nat} {v : Value} {d : DataW H} {p : List MemPlace}
    (hval : Value.okWide Try.prog W .any base 25 v) (h : DataW.Trod enc Try.prog W 0 (fun _ => true) true 25 v d p) :
    ∃ r a n c, v = .agg #[.int .u8 (r.k.toNat : Int), .int .u32 (r.o : Int), .int .u8 (r.p.toNat : Int), .slice a n c, .int .u8 (r.s.toNat : Int), .int .u8 (r.f.toNat : Int), .int .u8 (r.t.toNat : Int), .int .i64 r.q] ∧ ReqB W r a n c ∧ r.ok := by
  obtain ⟨cs, rfl, hsz⟩ := okWide_struct Try.underlying25 hval
  obtain ⟨fuel, hf⟩ := h
  obtain ⟨xs, n, _, _, hl, hlen, hff⟩ := DataW.trod_struct Try.underlying25 hf
  rw [req_cells] at hl
  obtain ⟨c0, c1, c2, c3, c4, c5, c6, c7, hcs⟩ := list8' hl
  obtain ⟨y0, y1, y2, y3, y4, y5, y6, y7, hxs⟩ := list8' (cs := xs) (by simpa using hlen)
  rw [hcs, hxs] at hff
  have k1 : Try.prog.cellsOf 5 = 1 := by kernel_rfl
  have k2 : Try.prog.cellsOf 2 = 1 := by kernel_rfl
  have k3 : Try.prog.cellsOf 22 = 1 := by kernel_rfl
  have k4 : Try.prog.cellsOf 23 = 1 := by kernel_rfl
  have u0 : DataW.trod enc Try.prog W 0 (fun _ => true) true n 5 [c0] = some y0 := by
    have h := hff 0 _ (by rfl)
    simpa [k1, k2, k3, k4] using h
  have u1 : DataW.trod enc Try.prog W 0 (fun _ => true) true n 22 [c1] = some y1 := by
    have h := hff 1 _ (by rfl)
    simpa [k1, k2, k3, k4] using h
  have u2 : DataW.trod enc Try.prog W 0 (fun _ => true) true n 5 [c2] = some y2 := by
    have h := hff 2 _ (by rfl)
    simpa [k1, k2, k3, k4] using h
  have u3 : DataW.trod enc Try.prog W 0 (fun _ => true) true n 23 [c3] = some y3 := by
    have h := hff 3 _ (by rfl)
    simpa [k1, k2, k3, k4] using h
  have u4 : DataW.trod enc Try.prog W 0 (fun _ => true) true n 5 [c4] = some y4 := by
    have h := hff 4 _ (by rfl)
    simpa [k1, k2, k3, k4] using h
  have u5 : DataW.trod enc Try.prog W 0 (fun _ => true) true n 5 [c5] = some y5 := by
    have h := hff 5 _ (by rfl)
    simpa [k1, k2, k3, k4] using h
  have u6 : DataW.trod enc Try.prog W 0 (fun _ => true) true n 5 [c6] = some y6 := by
    have h := hff 6 _ (by rfl)
    simpa [k1, k2, k3, k4] using h
  have u7 : DataW.trod enc Try.prog W 0 (fun _ => true) true n 2 [c7] = some y7 := by
    have h := hff 7 _ (by rfl)
    simpa [k1, k2, k3, k4] using h
  obtain ⟨i0, h0, w0⟩ := DataW.trod_int Try.underlying5 u0
  obtain ⟨i1, h1, w1⟩ := DataW.trod_int Try.underlying22 u1
  obtain ⟨i2, h2, w2⟩ := DataW.trod_int Try.underlying5 u2
  obtain ⟨a3, n3, d3, L, h3, hln, hmx, hll, hlo⟩ := lines_of u3
  obtain ⟨i4, h4, w4⟩ := DataW.trod_int Try.underlying5 u4
  obtain ⟨i5, h5, w5⟩ := DataW.trod_int Try.underlying5 u5
  obtain ⟨i6, h6, w6⟩ := DataW.trod_int Try.underlying5 u6
  obtain ⟨i7, h7, w7⟩ := DataW.trod_int Try.underlying2 u7
  simp only [List.cons.injEq, and_true] at h0 h1 h2 h4 h5 h6 h7
  subst h0 h1 h2 h3 h4 h5 h6 h7
  obtain ⟨b0, rfl⟩ := u8_of w0.2
  obtain ⟨b1, rfl, hlt⟩ := u32_of w1.2
  obtain ⟨b2, rfl⟩ := u8_of w2.2
  obtain ⟨b4, rfl⟩ := u8_of w4.2
  obtain ⟨b5, rfl⟩ := u8_of w5.2
  obtain ⟨b6, rfl⟩ := u8_of w6.2
  obtain ⟨l⟩ := cs
  simp only [Value.cells] at hcs
  refine ⟨⟨b0, b1, b2, L, b4, b5, b6, i7⟩, a3, n3, d3, ?_, ⟨hln, hll, hmx⟩, ⟨hlt, i64_of w7.2, hlo⟩⟩
  rw [show l = _ from hcs]
end

end Go.Proofs.Ytomnhgcjdnhijaa
