/-
  Opening masters.
-/
import Derived.Test.YtfmcbnoldcfcbaaDoorMasterTorn
import Derived.Lib.SmallJoins
namespace Go.Proofs.YtfmcbnoldcfcbaaDoor
open Go.RowKit Go.ChangeShapes Go.WideShapes Go.ChangeAt Go.Deep

theorem master_cells : Tryd.prog.cellsOf 24 = 5 := by kernel_rfl
theorem list5 {α : Type} {cs : List α} (h : cs.length = 5) : ∃ c0 c1 c2 c3 c4, cs = [c0, c1, c2, c3, c4] := by
  match cs, h with
  | [c0, c1, c2, c3, c4], _ => exact ⟨c0, c1, c2, c3, c4, rfl⟩
theorem open_master {H : Type} {enc : TypeId × Value → H} {W : World} {base : Nat} {v : Value} {d : DataW H} {p : List MemPlace}
    (hval : Value.okWide Tryd.prog W .any base 24 v) (h : DataW.Trod enc Tryd.prog W 0 (fun _ => true) true 24 v d p) :
    ∃ m : MasterV, v = .agg #[.int .u64 (m.gen : Int), .int .u8 (m.area.toNat : Int), .int .i64 m.redo, .int .i64 m.tab, .int .i64 m.size] ∧ m.ok := by
  obtain ⟨cs, rfl, hsz⟩ := okWide_struct Tryd.underlying24 hval
  obtain ⟨fuel, hf⟩ := h
  obtain ⟨xs, n, _, _, hl, hlen, hff⟩ := DataW.trod_struct Tryd.underlying24 hf
  rw [master_cells] at hl
  obtain ⟨c0, c1, c2, c3, c4, hcs⟩ := list5 hl
  obtain ⟨y0, y1, y2, y3, y4, hxs⟩ := list5 (cs := xs) (by simpa using hlen)
  rw [hcs, hxs] at hff
  have k1 : Tryd.prog.cellsOf 5 = 1 := by kernel_rfl
  have k2 : Tryd.prog.cellsOf 22 = 1 := by kernel_rfl
  have k3 : Tryd.prog.cellsOf 2 = 1 := by kernel_rfl
  have u0 : DataW.trod enc Tryd.prog W 0 (fun _ => true) true n 22 [c0] = some y0 := by
    have h := hff 0 _ (by rfl)
    simpa [k1, k2, k3] using h
  have u1 : DataW.trod enc Tryd.prog W 0 (fun _ => true) true n 5 [c1] = some y1 := by
    have h := hff 1 _ (by rfl)
    simpa [k1, k2, k3] using h
  have u2 : DataW.trod enc Tryd.prog W 0 (fun _ => true) true n 2 [c2] = some y2 := by
    have h := hff 2 _ (by rfl)
    simpa [k1, k2, k3] using h
  have u3 : DataW.trod enc Tryd.prog W 0 (fun _ => true) true n 2 [c3] = some y3 := by
    have h := hff 3 _ (by rfl)
    simpa [k1, k2, k3] using h
  have u4 : DataW.trod enc Tryd.prog W 0 (fun _ => true) true n 2 [c4] = some y4 := by
    have h := hff 4 _ (by rfl)
    simpa [k1, k2, k3] using h
  obtain ⟨i0, h0, w0⟩ := DataW.trod_int Tryd.underlying22 u0
  obtain ⟨i1, h1, w1⟩ := DataW.trod_int Tryd.underlying5 u1
  obtain ⟨i2, h2, w2⟩ := DataW.trod_int Tryd.underlying2 u2
  obtain ⟨i3, h3, w3⟩ := DataW.trod_int Tryd.underlying2 u3
  obtain ⟨i4, h4, w4⟩ := DataW.trod_int Tryd.underlying2 u4
  simp only [List.cons.injEq, and_true] at h0 h1 h2 h3 h4
  subst h0 h1 h2 h3 h4
  have b0 : 0 ≤ i0 ∧ i0 ≤ 18446744073709551615 := by simpa [Lit.wf, IntKind.min, IntKind.max, IntKind.signed, IntKind.bits] using w0.2
  have b1 : 0 ≤ i1 ∧ i1 ≤ 255 := by simpa [Lit.wf, IntKind.min, IntKind.max, IntKind.signed, IntKind.bits] using w1.2
  have b2 : -9223372036854775808 ≤ i2 ∧ i2 ≤ 9223372036854775807 := by simpa [Lit.wf, IntKind.min, IntKind.max, IntKind.signed, IntKind.bits] using w2.2
  have b3 : -9223372036854775808 ≤ i3 ∧ i3 ≤ 9223372036854775807 := by simpa [Lit.wf, IntKind.min, IntKind.max, IntKind.signed, IntKind.bits] using w3.2
  have b4 : -9223372036854775808 ≤ i4 ∧ i4 ≤ 9223372036854775807 := by simpa [Lit.wf, IntKind.min, IntKind.max, IntKind.signed, IntKind.bits] using w4.2
  obtain ⟨l⟩ := cs
  simp only [Value.cells] at hcs
  obtain ⟨g, rfl⟩ : ∃ g : Nat, i0 = g := ⟨i0.toNat, by omega⟩
  obtain ⟨a, rfl⟩ : ∃ a : Nat, i1 = a := ⟨i1.toNat, by omega⟩
  refine ⟨⟨g, UInt8.ofNat a, i2, i3, i4⟩, ?_, ⟨by simp only; omega, b2, b3, b4⟩⟩
  simp only [UInt8.toNat_ofNat']
  rw [Nat.mod_eq_of_lt (by omega), show l = [.int .u64 (g : Int), .int .u8 (a : Int), .int .i64 i2, .int .i64 i3, .int .i64 i4] from hcs]

end Go.Proofs.YtfmcbnoldcfcbaaDoor
