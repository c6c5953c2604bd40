/-
  How the small numbers read as an argument.
-/
import Derived.Test.YtomnhgcjdnhijaaCArgs
namespace Go.Proofs.Ytomnhgcjdnhijaa
open Go.RowKit Go.ChangeShapes Go.WideShapes Go.ChangeAt Go.Deep
set_option maxRecDepth 100000

section
variable {H : Type} {enc : TypeId × Value → H} {W : World}
theorem n8_of {z : Int} (h : (Lit.int .u8 z).wf = true) : ∃ k : Nat, z = (k : Int) ∧ k < 256 := by
  have hb : 0 ≤ z ∧ z ≤ 255 := by simpa [Lit.wf, IntKind.min, IntKind.max, IntKind.signed, IntKind.bits] using h
  exact ⟨z.toNat, by omega, by omega⟩
theorem n16_of {z : Int} (h : (Lit.int .u16 z).wf = true) : ∃ k : Nat, z = (k : Int) ∧ k < 65536 := by
  have hb : 0 ≤ z ∧ z ≤ 65535 := by simpa [Lit.wf, IntKind.min, IntKind.max, IntKind.signed, IntKind.bits] using h
  exact ⟨z.toNat, by omega, by omega⟩
theorem k_u16 : Try.prog.cellsOf 55 = 1 := by kernel_rfl
theorem k_small : Try.prog.cellsOf 57 = 12 := by kernel_rfl
theorem list12 {α : Type} {cs : List α} (h : cs.length = 12) : ∃ c0 c1 c2 c3 c4 c5 c6 c7 c8 c9 c10 c11, cs = [c0, c1, c2, c3, c4, c5, c6, c7, c8, c9, c10, c11] := by
  obtain ⟨c0, r0, rfl, h0⟩ := list_one h
  obtain ⟨c1, r1, rfl, h1⟩ := list_one h0
  obtain ⟨c2, r2, rfl, h2⟩ := list_one h1
  obtain ⟨c3, r3, rfl, h3⟩ := list_one h2
  obtain ⟨c4, r4, rfl, h4⟩ := list_one h3
  obtain ⟨c5, r5, rfl, h5⟩ := list_one h4
  obtain ⟨c6, r6, rfl, h6⟩ := list_one h5
  obtain ⟨c7, r7, rfl, h7⟩ := list_one h6
  obtain ⟨c8, r8, rfl, h8⟩ := list_one h7
  obtain ⟨c9, r9, rfl, h9⟩ := list_one h8
  obtain ⟨c10, r10, rfl, h10⟩ := list_one h9
  obtain ⟨c11, r11, rfl, h11⟩ := list_one h10
  obtain rfl := List.eq_nil_of_length_eq_zero h11
  exact ⟨c0, c1, c2, c3, c4, c5, c6, c7, c8, c9, c10, c11, rfl⟩
theorem open_small {base : Nat} {v : Value} {d : DataW H} {p : List MemPlace}
    (hval : Value.okWide Try.prog W .any base 57 v) (h : DataW.Trod enc Try.prog W 0 (fun _ => true) true 57 v d p) :
    ∃ n0 n1 n2 n3 n4 n5 n6 n7 n8 n9 n10 n11 : Nat, v = .agg #[.int .u8 (n0 : Int), .int .u8 (n1 : Int), .int .u8 (n2 : Int), .int .u16 (n3 : Int), .int .u8 (n4 : Int), .int .u8 (n5 : Int), .int .u8 (n6 : Int), .int .u8 (n7 : Int), .int .u8 (n8 : Int), .int .u8 (n9 : Int), .int .u16 (n10 : Int), .int .u8 (n11 : Int)] ∧ n0 < 256 ∧ n1 < 256 ∧ n2 < 256 ∧ n3 < 65536 ∧ n4 < 256 ∧ n5 < 256 ∧ n6 < 256 ∧ n7 < 256 ∧ n8 < 256 ∧ n9 < 256 ∧ n10 < 65536 ∧ n11 < 256 := by
  obtain ⟨cs, rfl, hsz⟩ := okWide_struct Try.underlying57 hval
  obtain ⟨fuel, hf⟩ := h
  obtain ⟨xs, n, _, _, hl, hlen, hff⟩ := DataW.trod_struct Try.underlying57 hf
  rw [k_small] at hl
  obtain ⟨c0, c1, c2, c3, c4, c5, c6, c7, c8, c9, c10, c11, hcs⟩ := list12 hl
  obtain ⟨y0, y1, y2, y3, y4, y5, y6, y7, y8, y9, y10, y11, hxs⟩ := list12 (cs := xs) (by simpa using hlen)
  rw [hcs, hxs] at hff
  have u0 : DataW.trod enc Try.prog W 0 (fun _ => true) true n 5 [c0] = some y0 := by
    have h := hff 0 _ (by rfl)
    simpa [k_u8, k_u16] using h
  have u1 : DataW.trod enc Try.prog W 0 (fun _ => true) true n 5 [c1] = some y1 := by
    have h := hff 1 _ (by rfl)
    simpa [k_u8, k_u16] using h
  have u2 : DataW.trod enc Try.prog W 0 (fun _ => true) true n 5 [c2] = some y2 := by
    have h := hff 2 _ (by rfl)
    simpa [k_u8, k_u16] using h
  have u3 : DataW.trod enc Try.prog W 0 (fun _ => true) true n 55 [c3] = some y3 := by
    have h := hff 3 _ (by rfl)
    simpa [k_u8, k_u16] using h
  have u4 : DataW.trod enc Try.prog W 0 (fun _ => true) true n 5 [c4] = some y4 := by
    have h := hff 4 _ (by rfl)
    simpa [k_u8, k_u16] using h
  have u5 : DataW.trod enc Try.prog W 0 (fun _ => true) true n 5 [c5] = some y5 := by
    have h := hff 5 _ (by rfl)
    simpa [k_u8, k_u16] using h
  have u6 : DataW.trod enc Try.prog W 0 (fun _ => true) true n 5 [c6] = some y6 := by
    have h := hff 6 _ (by rfl)
    simpa [k_u8, k_u16] using h
  have u7 : DataW.trod enc Try.prog W 0 (fun _ => true) true n 5 [c7] = some y7 := by
    have h := hff 7 _ (by rfl)
    simpa [k_u8, k_u16] using h
  have u8 : DataW.trod enc Try.prog W 0 (fun _ => true) true n 5 [c8] = some y8 := by
    have h := hff 8 _ (by rfl)
    simpa [k_u8, k_u16] using h
  have u9 : DataW.trod enc Try.prog W 0 (fun _ => true) true n 5 [c9] = some y9 := by
    have h := hff 9 _ (by rfl)
    simpa [k_u8, k_u16] using h
  have u10 : DataW.trod enc Try.prog W 0 (fun _ => true) true n 55 [c10] = some y10 := by
    have h := hff 10 _ (by rfl)
    simpa [k_u8, k_u16] using h
  have u11 : DataW.trod enc Try.prog W 0 (fun _ => true) true n 5 [c11] = some y11 := by
    have h := hff 11 _ (by rfl)
    simpa [k_u8, k_u16] using h
  obtain ⟨i0, h0, w0⟩ := DataW.trod_int Try.underlying5 u0
  obtain ⟨i1, h1, w1⟩ := DataW.trod_int Try.underlying5 u1
  obtain ⟨i2, h2, w2⟩ := DataW.trod_int Try.underlying5 u2
  obtain ⟨i3, h3, w3⟩ := DataW.trod_int Try.underlying55 u3
  obtain ⟨i4, h4, w4⟩ := DataW.trod_int Try.underlying5 u4
  obtain ⟨i5, h5, w5⟩ := DataW.trod_int Try.underlying5 u5
  obtain ⟨i6, h6, w6⟩ := DataW.trod_int Try.underlying5 u6
  obtain ⟨i7, h7, w7⟩ := DataW.trod_int Try.underlying5 u7
  obtain ⟨i8, h8, w8⟩ := DataW.trod_int Try.underlying5 u8
  obtain ⟨i9, h9, w9⟩ := DataW.trod_int Try.underlying5 u9
  obtain ⟨i10, h10, w10⟩ := DataW.trod_int Try.underlying55 u10
  obtain ⟨i11, h11, w11⟩ := DataW.trod_int Try.underlying5 u11
  simp only [List.cons.injEq, and_true] at h0 h1 h2 h3 h4 h5 h6 h7 h8 h9 h10 h11
  subst h0 h1 h2 h3 h4 h5 h6 h7 h8 h9 h10 h11
  obtain ⟨n0, rfl, b0⟩ := n8_of w0.2
  obtain ⟨n1, rfl, b1⟩ := n8_of w1.2
  obtain ⟨n2, rfl, b2⟩ := n8_of w2.2
  obtain ⟨n3, rfl, b3⟩ := n16_of w3.2
  obtain ⟨n4, rfl, b4⟩ := n8_of w4.2
  obtain ⟨n5, rfl, b5⟩ := n8_of w5.2
  obtain ⟨n6, rfl, b6⟩ := n8_of w6.2
  obtain ⟨n7, rfl, b7⟩ := n8_of w7.2
  obtain ⟨n8, rfl, b8⟩ := n8_of w8.2
  obtain ⟨n9, rfl, b9⟩ := n8_of w9.2
  obtain ⟨n10, rfl, b10⟩ := n16_of w10.2
  obtain ⟨n11, rfl, b11⟩ := n8_of w11.2
  obtain ⟨l⟩ := cs
  simp only [Value.cells] at hcs
  exact ⟨n0, n1, n2, n3, n4, n5, n6, n7, n8, n9, n10, n11, by rw [show l = _ from hcs], b0, b1, b2, b3, b4, b5, b6, b7, b8, b9, b10, b11⟩
end

end Go.Proofs.Ytomnhgcjdnhijaa
