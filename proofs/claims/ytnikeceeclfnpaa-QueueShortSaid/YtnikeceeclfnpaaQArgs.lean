/-
  Opening who waits, and acts.
-/
import Derived.Test.YtnikeceeclfnpaaQFns
namespace Go.Proofs.Ytnikeceeclfnpaa
open Go.RowKit Go.ChangeShapes Go.WideShapes Go.ChangeAt Go.Deep
set_option maxRecDepth 100000

section
variable {H : Type} {enc : TypeId × Value → H} {W : World}
theorem wait_cells : Try.prog.cellsOf 50 = 2 := by kernel_rfl
theorem qact_cells : Try.prog.cellsOf 64 = 3 := by kernel_rfl
theorem list2' {α : Type} {cs : List α} (h : cs.length = 2) : ∃ c0 c1, cs = [c0, c1] := by
  match cs, h with
  | [c0, c1], _ => exact ⟨c0, c1, rfl⟩
theorem list3' {α : Type} {cs : List α} (h : cs.length = 3) : ∃ c0 c1 c2, cs = [c0, c1, c2] := by
  match cs, h with
  | [c0, c1, c2], _ => exact ⟨c0, c1, c2, rfl⟩
theorem u8_of {z : Int} (h : (Lit.int .u8 z).wf = true) : ∃ k : UInt8, z = (k.toNat : Int) := by
  have hb : 0 ≤ z ∧ z ≤ 255 := by simpa [Lit.wf, IntKind.min, IntKind.max, IntKind.signed, IntKind.bits] using h
  exact ⟨UInt8.ofNat z.toNat, by simp; omega⟩
theorem u32_of {z : Int} (h : (Lit.int .u32 z).wf = true) : ∃ k : Nat, z = (k : Int) ∧ k < 4294967296 := by
  have hb : 0 ≤ z ∧ z ≤ 4294967295 := by simpa [Lit.wf, IntKind.min, IntKind.max, IntKind.signed, IntKind.bits] using h
  exact ⟨z.toNat, by omega, by omega⟩
theorem wait_of {n : Nat} {cs : List Value} {x : DataW H × List MemPlace} (hf : DataW.trod enc Try.prog W 0 (fun _ => true) true n 50 cs = some x) : ∃ y : WaitP, cs = waitCells y := by
  obtain ⟨xs, n, _, _, hl, hlen, hff⟩ := DataW.trod_struct Try.underlying50 hf
  rw [wait_cells] at hl
  obtain ⟨c0, c1, hcs⟩ := list2' hl
  obtain ⟨y0, y1, hxs⟩ := list2' (cs := xs) (by simpa using hlen)
  rw [hcs, hxs] at hff
  have k1 : Try.prog.cellsOf 5 = 1 := by kernel_rfl
  have k2 : Try.prog.cellsOf 48 = 1 := by kernel_rfl
  have u0 : DataW.trod enc Try.prog W 0 (fun _ => true) true n 48 [c0] = some y0 := by
    have h := hff 0 _ (by rfl)
    simpa [k1, k2] using h
  have u1 : DataW.trod enc Try.prog W 0 (fun _ => true) true n 5 [c1] = some y1 := by
    have h := hff 1 _ (by rfl)
    simpa [k1, k2] using h
  obtain ⟨i0, h0, w0⟩ := DataW.trod_int Try.underlying48 u0
  obtain ⟨i1, h1, w1⟩ := DataW.trod_int Try.underlying5 u1
  simp only [List.cons.injEq, and_true] at h0 h1
  subst h0 h1
  obtain ⟨a0, rfl, _⟩ := u32_of w0.2
  obtain ⟨a1, rfl⟩ := u8_of w1.2
  exact ⟨(a0, a1), hcs⟩
def qactCells (y : UInt8 × WaitP) : List Value := [.int .u8 (y.1.toNat : Int), .int .u32 (y.2.1 : Int), .int .u8 (y.2.2.toNat : Int)]
theorem qact_of {n : Nat} {cs : List Value} {x : DataW H × List MemPlace} (hf : DataW.trod enc Try.prog W 0 (fun _ => true) true n 64 cs = some x) : ∃ y : UInt8 × WaitP, cs = qactCells y := by
  obtain ⟨xs, n, _, _, hl, hlen, hff⟩ := DataW.trod_struct Try.underlying64 hf
  rw [qact_cells] at hl
  obtain ⟨c0, c1, c2, hcs⟩ := list3' hl
  obtain ⟨y0, y1, hxs⟩ := list2' (cs := xs) (by simpa using hlen)
  rw [hcs, hxs] at hff
  have k1 : Try.prog.cellsOf 5 = 1 := by kernel_rfl
  have u0 : DataW.trod enc Try.prog W 0 (fun _ => true) true n 5 [c0] = some y0 := by
    have h := hff 0 _ (by rfl)
    simpa [k1, wait_cells] using h
  have u1 : DataW.trod enc Try.prog W 0 (fun _ => true) true n 50 [c1, c2] = some y1 := by
    have h := hff 1 _ (by rfl)
    simpa [k1, wait_cells] using h
  obtain ⟨i0, h0, w0⟩ := DataW.trod_int Try.underlying5 u0
  obtain ⟨y, h1⟩ := wait_of u1
  simp only [List.cons.injEq, and_true] at h0
  subst h0
  obtain ⟨a0, rfl⟩ := u8_of w0.2
  simp only [waitCells, List.cons.injEq, and_true] at h1
  obtain ⟨rfl, rfl⟩ := h1
  exact ⟨(a0, y), hcs⟩
theorem open_wait {base : Nat} {v : Value} {d : DataW H} {p : List MemPlace}
    (hval : Value.okWide Try.prog W .any base 50 v) (h : DataW.Trod enc Try.prog W 0 (fun _ => true) true 50 v d p) :
    ∃ x : WaitP, v = .agg #[.int .u32 (x.1 : Int), .int .u8 (x.2.toNat : Int)] := by
  obtain ⟨cs, rfl, hsz⟩ := okWide_struct Try.underlying50 hval
  obtain ⟨fuel, hf⟩ := h
  obtain ⟨x, hcs⟩ := wait_of hf
  refine ⟨x, ?_⟩
  obtain ⟨l⟩ := cs
  simp only [Value.cells, waitCells] at hcs
  rw [show l = [.int .u32 (x.1 : Int), .int .u8 (x.2.toNat : Int)] from hcs]
theorem open_qact {base : Nat} {v : Value} {d : DataW H} {p : List MemPlace}
    (hval : Value.okWide Try.prog W .any base 64 v) (h : DataW.Trod enc Try.prog W 0 (fun _ => true) true 64 v d p) :
    ∃ y : UInt8 × WaitP, v = .agg #[.int .u8 (y.1.toNat : Int), .int .u32 (y.2.1 : Int), .int .u8 (y.2.2.toNat : Int)] := by
  obtain ⟨cs, rfl, hsz⟩ := okWide_struct Try.underlying64 hval
  obtain ⟨fuel, hf⟩ := h
  obtain ⟨y, hcs⟩ := qact_of hf
  refine ⟨y, ?_⟩
  obtain ⟨l⟩ := cs
  simp only [Value.cells, qactCells] at hcs
  rw [show l = [.int .u8 (y.1.toNat : Int), .int .u32 (y.2.1 : Int), .int .u8 (y.2.2.toNat : Int)] from hcs]
theorem open_waits {base : Nat} {v : Value} {d : DataW H} {p : List MemPlace}
    (hval : Value.okWide Try.prog W .any base 47 v) (h : DataW.Trod enc Try.prog W 0 (fun _ => true) true 47 v d p) :
    ∃ (a : Option Addr) (len cap : Nat) (L : List WaitP), v = .slice a len cap ∧ Lies W a len cap L := by
  obtain ⟨a, len, cap, rfl⟩ := okWide_slice Try.underlying47 hval
  obtain ⟨fuel, hf⟩ := h
  rcases open_slice Try.underlying47 hf with ⟨hcs, _⟩ | ⟨x, l, c, m, n, D, Pl, hcs, _, hl, hm, hmm, _, hall⟩
  · simp [Value.cells] at hcs
    obtain ⟨rfl, rfl, rfl⟩ := hcs
    exact ⟨none, 0, 0, [], rfl, WaitList.nil _ _, rfl, Nat.le_refl _, by simp [maxLen]⟩
  · simp [Value.cells] at hcs
    obtain ⟨rfl, rfl, rfl⟩ := hcs
    rw [wait_cells] at hall
    simp only [if_true] at hmm
    subst hmm
    obtain ⟨A, hA⟩ := choose_lt (α := WaitP) (n := m) (p := fun i y => W.cells? 0 (x.add (i * 2)) 2 = some (waitCells y)) (fun i hi => by
      obtain ⟨cs', h1, h2⟩ := hall i hi
      obtain ⟨y, rfl⟩ := wait_of h2
      exact ⟨y, h1⟩)
    refine ⟨_, _, _, (List.range len).map A, rfl, fun i hi => ?_, by simp, hl, by omega⟩
    have hi' : i < len := by simpa using hi
    have h1 := hA i (by omega)
    have h2 := (World.cells?_some h1).2.2
    have s0 : x.spot = none := by
      have h10 := hA 0 (by omega)
      have := (World.cells?_some h10).2.2 0 (by omega)
      have hq : W.cell? x = some (.int .u32 ((A 0).1 : Int)) := by simpa [Addr.add, waitCells] using this
      exact World.cell?_spot hq
    obtain ⟨b, o, s⟩ := x
    simp only at s0
    subst s0
    rw [List.getElem_map, List.getElem_range]
    refine ⟨b, o, rfl, ?_, ?_⟩
    · have := h2 0 (by omega); rw [Addr.add_lit, Addr.add_lit] at this; exact this
    · have := h2 1 (by omega); rw [Addr.add_lit, Addr.add_lit] at this; exact this
def QActAt (W : World) (a : Option Addr) (i : Nat) (y : UInt8 × WaitP) : Prop :=
  ∃ b o, a = some ⟨b, o, none⟩ ∧ W.cell? ⟨b, o + i * 3, none⟩ = some (.int .u8 (y.1.toNat : Int)) ∧ W.cell? ⟨b, o + i * 3 + 1, none⟩ = some (.int .u32 (y.2.1 : Int)) ∧ W.cell? ⟨b, o + i * 3 + 2, none⟩ = some (.int .u8 (y.2.2.toNat : Int))
theorem open_qacts {base : Nat} {v : Value} {d : DataW H} {p : List MemPlace}
    (hval : Value.okWide Try.prog W .any base 62 v) (h : DataW.Trod enc Try.prog W 0 (fun _ => true) true 62 v d p) :
    ∃ (a : Option Addr) (len cap : Nat) (A : Nat → UInt8 × WaitP), v = .slice a len cap ∧ len ≤ maxLen ∧ ∀ i, i < len → QActAt W a i (A i) := by
  obtain ⟨a, len, cap, rfl⟩ := okWide_slice Try.underlying62 hval
  obtain ⟨fuel, hf⟩ := h
  rcases open_slice Try.underlying62 hf with ⟨hcs, _⟩ | ⟨x, l, c, m, n, D, Pl, hcs, _, hl, hm, hmm, _, hall⟩
  · simp [Value.cells] at hcs
    obtain ⟨rfl, rfl, rfl⟩ := hcs
    exact ⟨none, 0, 0, fun _ => (0, 0, 0), rfl, by simp [maxLen], fun i hi => by omega⟩
  · simp [Value.cells] at hcs
    obtain ⟨rfl, rfl, rfl⟩ := hcs
    rw [qact_cells] at hall
    simp only [if_true] at hmm
    subst hmm
    haveI : Inhabited (UInt8 × WaitP) := ⟨(0, 0, 0)⟩
    obtain ⟨A, hA⟩ := choose_lt (α := UInt8 × WaitP) (n := m) (p := fun i y => W.cells? 0 (x.add (i * 3)) 3 = some (qactCells y)) (fun i hi => by
      obtain ⟨cs', h1, h2⟩ := hall i hi
      obtain ⟨y, rfl⟩ := qact_of h2
      exact ⟨y, h1⟩)
    refine ⟨_, _, _, A, rfl, by omega, fun i hi => ?_⟩
    have h1 := hA i (by omega)
    have h2 := (World.cells?_some h1).2.2
    have s0 : x.spot = none := by
      have h10 := hA 0 (by omega)
      have := (World.cells?_some h10).2.2 0 (by omega)
      have hq : W.cell? x = some (.int .u8 ((A 0).1.toNat : Int)) := by simpa [Addr.add, qactCells] using this
      exact World.cell?_spot hq
    obtain ⟨b, o, s⟩ := x
    simp only at s0
    subst s0
    refine ⟨b, o, rfl, ?_, ?_, ?_⟩
    · have := h2 0 (by omega); rw [Addr.add_lit, Addr.add_lit] at this; exact this
    · have := h2 1 (by omega); rw [Addr.add_lit, Addr.add_lit] at this; exact this
    · have := h2 2 (by omega); rw [Addr.add_lit, Addr.add_lit] at this; exact this
end

end Go.Proofs.Ytnikeceeclfnpaa
