/-
  How configurations, keys and what is said of them read as arguments.
-/
import Derived.Test.YtomnhgcjdnhijaaCPlainB
namespace Go.Proofs.Ytomnhgcjdnhijaa
open Go.RowKit Go.ChangeShapes Go.WideShapes Go.ChangeAt Go.Deep
set_option maxRecDepth 100000

section
variable {H : Type} {enc : TypeId × Value → H} {W : World}
theorem u8_ofVV {z : Int} (h : (Lit.int .u8 z).wf = true) : ∃ k : UInt8, z = (k.toNat : Int) := by
  have hb : 0 ≤ z ∧ z ≤ 255 := by simpa [Lit.wf, IntKind.min, IntKind.max, IntKind.signed, IntKind.bits] using h
  exact ⟨UInt8.ofNat z.toNat, by simp; omega⟩
theorem i64_ofVV {z : Int} (h : (Lit.int .i64 z).wf = true) : i64 z := by
  unfold i64
  simpa [Lit.wf, IntKind.min, IntKind.max, IntKind.signed, IntKind.bits] using h
theorem list_one {α : Type} {n : Nat} {cs : List α} (h : cs.length = n + 1) : ∃ c r, cs = c :: r ∧ r.length = n := by
  cases cs with
  | nil => simp at h
  | cons c r => exact ⟨c, r, rfl, by simpa using h⟩
theorem k_u8 : Try.prog.cellsOf 5 = 1 := by kernel_rfl
theorem k_int : Try.prog.cellsOf 3 = 1 := by kernel_rfl
theorem k_i64 : Try.prog.cellsOf 2 = 1 := by kernel_rfl
theorem k_key : Try.prog.cellsOf 96 = 3 := by kernel_rfl
theorem k_decl : Try.prog.cellsOf 98 = 6 := by kernel_rfl
theorem k_decls : Try.prog.cellsOf 58 = 1 := by kernel_rfl
theorem k_row : Try.prog.cellsOf 59 = 4 := by kernel_rfl
theorem k_prio : Try.prog.cellsOf 60 = 16 := by kernel_rfl
theorem k_conf : Try.prog.cellsOf 62 = 26 := by kernel_rfl
theorem list3 {α : Type} {cs : List α} (h : cs.length = 3) : ∃ c0 c1 c2, cs = [c0, c1, c2] := by
  obtain ⟨c0, r0, rfl, h0⟩ := list_one h
  obtain ⟨c1, r1, rfl, h1⟩ := list_one h0
  obtain ⟨c2, r2, rfl, h2⟩ := list_one h1
  obtain rfl := List.eq_nil_of_length_eq_zero h2
  exact ⟨c0, c1, c2, rfl⟩
theorem list4 {α : Type} {cs : List α} (h : cs.length = 4) : ∃ c0 c1 c2 c3, cs = [c0, c1, c2, c3] := by
  obtain ⟨c0, r0, rfl, h0⟩ := list_one h
  obtain ⟨c1, r1, rfl, h1⟩ := list_one h0
  obtain ⟨c2, r2, rfl, h2⟩ := list_one h1
  obtain ⟨c3, r3, rfl, h3⟩ := list_one h2
  obtain rfl := List.eq_nil_of_length_eq_zero h3
  exact ⟨c0, c1, c2, c3, rfl⟩
theorem list6 {α : Type} {cs : List α} (h : cs.length = 6) : ∃ c0 c1 c2 c3 c4 c5, cs = [c0, c1, c2, c3, c4, c5] := by
  obtain ⟨c0, r0, rfl, h0⟩ := list_one h
  obtain ⟨c1, r1, rfl, h1⟩ := list_one h0
  obtain ⟨c2, r2, rfl, h2⟩ := list_one h1
  obtain ⟨c3, r3, rfl, h3⟩ := list_one h2
  obtain ⟨c4, r4, rfl, h4⟩ := list_one h3
  obtain ⟨c5, r5, rfl, h5⟩ := list_one h4
  obtain rfl := List.eq_nil_of_length_eq_zero h5
  exact ⟨c0, c1, c2, c3, c4, c5, rfl⟩
theorem list11 {α : Type} {cs : List α} (h : cs.length = 11) : ∃ c0 c1 c2 c3 c4 c5 c6 c7 c8 c9 c10, cs = [c0, c1, c2, c3, c4, c5, c6, c7, c8, c9, c10] := by
  obtain ⟨c0, r0, rfl, h0⟩ := list_one h
  obtain ⟨c1, r1, rfl, h1⟩ := list_one h0
  obtain ⟨c2, r2, rfl, h2⟩ := list_one h1
  obtain ⟨c3, r3, rfl, h3⟩ := list_one h2
  obtain ⟨c4, r4, rfl, h4⟩ := list_one h3
  obtain ⟨c5, r5, rfl, h5⟩ := list_one h4
  obtain ⟨c6, r6, rfl, h6⟩ := list_one h5
  obtain ⟨c7, r7, rfl, h7⟩ := list_one h6
  obtain ⟨c8, r8, rfl, h8⟩ := list_one h7
  obtain ⟨c9, r9, rfl, h9⟩ := list_one h8
  obtain ⟨c10, r10, rfl, h10⟩ := list_one h9
  obtain rfl := List.eq_nil_of_length_eq_zero h10
  exact ⟨c0, c1, c2, c3, c4, c5, c6, c7, c8, c9, c10, rfl⟩
theorem list16 {α : Type} {cs : List α} (h : cs.length = 16) : ∃ c0 c1 c2 c3 c4 c5 c6 c7 c8 c9 c10 c11 c12 c13 c14 c15, cs = [c0, c1, c2, c3, c4, c5, c6, c7, c8, c9, c10, c11, c12, c13, c14, c15] := by
  obtain ⟨c0, r0, rfl, h0⟩ := list_one h
  obtain ⟨c1, r1, rfl, h1⟩ := list_one h0
  obtain ⟨c2, r2, rfl, h2⟩ := list_one h1
  obtain ⟨c3, r3, rfl, h3⟩ := list_one h2
  obtain ⟨c4, r4, rfl, h4⟩ := list_one h3
  obtain ⟨c5, r5, rfl, h5⟩ := list_one h4
  obtain ⟨c6, r6, rfl, h6⟩ := list_one h5
  obtain ⟨c7, r7, rfl, h7⟩ := list_one h6
  obtain ⟨c8, r8, rfl, h8⟩ := list_one h7
  obtain ⟨c9, r9, rfl, h9⟩ := list_one h8
  obtain ⟨c10, r10, rfl, h10⟩ := list_one h9
  obtain ⟨c11, r11, rfl, h11⟩ := list_one h10
  obtain ⟨c12, r12, rfl, h12⟩ := list_one h11
  obtain ⟨c13, r13, rfl, h13⟩ := list_one h12
  obtain ⟨c14, r14, rfl, h14⟩ := list_one h13
  obtain ⟨c15, r15, rfl, h15⟩ := list_one h14
  obtain rfl := List.eq_nil_of_length_eq_zero h15
  exact ⟨c0, c1, c2, c3, c4, c5, c6, c7, c8, c9, c10, c11, c12, c13, c14, c15, rfl⟩
theorem list26 {α : Type} {cs : List α} (h : cs.length = 26) : ∃ c0 c1 c2 c3 c4 c5 c6 c7 c8 c9 c10 c11 c12 c13 c14 c15 c16 c17 c18 c19 c20 c21 c22 c23 c24 c25, cs = [c0, c1, c2, c3, c4, c5, c6, c7, c8, c9, c10, c11, c12, c13, c14, c15, c16, c17, c18, c19, c20, c21, c22, c23, c24, c25] := by
  obtain ⟨c0, r0, rfl, h0⟩ := list_one h
  obtain ⟨c1, r1, rfl, h1⟩ := list_one h0
  obtain ⟨c2, r2, rfl, h2⟩ := list_one h1
  obtain ⟨c3, r3, rfl, h3⟩ := list_one h2
  obtain ⟨c4, r4, rfl, h4⟩ := list_one h3
  obtain ⟨c5, r5, rfl, h5⟩ := list_one h4
  obtain ⟨c6, r6, rfl, h6⟩ := list_one h5
  obtain ⟨c7, r7, rfl, h7⟩ := list_one h6
  obtain ⟨c8, r8, rfl, h8⟩ := list_one h7
  obtain ⟨c9, r9, rfl, h9⟩ := list_one h8
  obtain ⟨c10, r10, rfl, h10⟩ := list_one h9
  obtain ⟨c11, r11, rfl, h11⟩ := list_one h10
  obtain ⟨c12, r12, rfl, h12⟩ := list_one h11
  obtain ⟨c13, r13, rfl, h13⟩ := list_one h12
  obtain ⟨c14, r14, rfl, h14⟩ := list_one h13
  obtain ⟨c15, r15, rfl, h15⟩ := list_one h14
  obtain ⟨c16, r16, rfl, h16⟩ := list_one h15
  obtain ⟨c17, r17, rfl, h17⟩ := list_one h16
  obtain ⟨c18, r18, rfl, h18⟩ := list_one h17
  obtain ⟨c19, r19, rfl, h19⟩ := list_one h18
  obtain ⟨c20, r20, rfl, h20⟩ := list_one h19
  obtain ⟨c21, r21, rfl, h21⟩ := list_one h20
  obtain ⟨c22, r22, rfl, h22⟩ := list_one h21
  obtain ⟨c23, r23, rfl, h23⟩ := list_one h22
  obtain ⟨c24, r24, rfl, h24⟩ := list_one h23
  obtain ⟨c25, r25, rfl, h25⟩ := list_one h24
  obtain rfl := List.eq_nil_of_length_eq_zero h25
  exact ⟨c0, c1, c2, c3, c4, c5, c6, c7, c8, c9, c10, c11, c12, c13, c14, c15, c16, c17, c18, c19, c20, c21, c22, c23, c24, c25, rfl⟩
theorem key_of {n : Nat} {cs : List Value} {x : DataW H × List MemPlace} (hf : DataW.trod enc Try.prog W 0 (fun _ => true) true n 96 cs = some x) : ∃ k : KeyP, cs = keyCells k := by
  obtain ⟨xs, n, _, _, hl, hlen, hff⟩ := DataW.trod_struct Try.underlying96 hf
  rw [k_key] at hl
  obtain ⟨c0, c1, c2, hcs⟩ := list3 hl
  obtain ⟨y0, y1, y2, hxs⟩ := list3 (cs := xs) (by simpa using hlen)
  rw [hcs, hxs] at hff
  have u0 : DataW.trod enc Try.prog W 0 (fun _ => true) true n 5 [c0] = some y0 := by
    have h := hff 0 _ (by rfl)
    simpa [k_u8, k_int, k_i64, k_key, k_decls, k_row, k_prio] using h
  have u1 : DataW.trod enc Try.prog W 0 (fun _ => true) true n 5 [c1] = some y1 := by
    have h := hff 1 _ (by rfl)
    simpa [k_u8, k_int, k_i64, k_key, k_decls, k_row, k_prio] using h
  have u2 : DataW.trod enc Try.prog W 0 (fun _ => true) true n 5 [c2] = some y2 := by
    have h := hff 2 _ (by rfl)
    simpa [k_u8, k_int, k_i64, k_key, k_decls, k_row, k_prio] using h
  obtain ⟨i0, h0, w0⟩ := DataW.trod_int Try.underlying5 u0
  obtain ⟨i1, h1, w1⟩ := DataW.trod_int Try.underlying5 u1
  obtain ⟨i2, h2, w2⟩ := DataW.trod_int Try.underlying5 u2
  simp only [List.cons.injEq, and_true] at h0 h1 h2
  subst h0 h1 h2
  obtain ⟨b0, rfl⟩ := u8_ofVV w0.2
  obtain ⟨b1, rfl⟩ := u8_ofVV w1.2
  obtain ⟨b2, rfl⟩ := u8_ofVV w2.2
  exact ⟨(b0, b1, b2), hcs⟩
theorem decl_of {n : Nat} {cs : List Value} {x : DataW H × List MemPlace} (hf : DataW.trod enc Try.prog W 0 (fun _ => true) true n 98 cs = some x) : ∃ d : DeclP, cs = declL d := by
  obtain ⟨xs, n, _, _, hl, hlen, hff⟩ := DataW.trod_struct Try.underlying98 hf
  rw [k_decl] at hl
  obtain ⟨c0, c1, c2, c3, c4, c5, hcs⟩ := list6 hl
  obtain ⟨y0, y1, y2, y3, hxs⟩ := list4 (cs := xs) (by simpa using hlen)
  rw [hcs, hxs] at hff
  have u0 : DataW.trod enc Try.prog W 0 (fun _ => true) true n 96 [c0, c1, c2] = some y0 := by
    have h := hff 0 _ (by rfl)
    simpa [k_u8, k_int, k_i64, k_key, k_decls, k_row, k_prio] using h
  have u1 : DataW.trod enc Try.prog W 0 (fun _ => true) true n 2 [c3] = some y1 := by
    have h := hff 1 _ (by rfl)
    simpa [k_u8, k_int, k_i64, k_key, k_decls, k_row, k_prio] using h
  have u2 : DataW.trod enc Try.prog W 0 (fun _ => true) true n 2 [c4] = some y2 := by
    have h := hff 2 _ (by rfl)
    simpa [k_u8, k_int, k_i64, k_key, k_decls, k_row, k_prio] using h
  have u3 : DataW.trod enc Try.prog W 0 (fun _ => true) true n 2 [c5] = some y3 := by
    have h := hff 3 _ (by rfl)
    simpa [k_u8, k_int, k_i64, k_key, k_decls, k_row, k_prio] using h
  obtain ⟨k, hk⟩ := key_of u0
  obtain ⟨i1, h1, w1⟩ := DataW.trod_int Try.underlying2 u1
  obtain ⟨i2, h2, w2⟩ := DataW.trod_int Try.underlying2 u2
  obtain ⟨i3, h3, w3⟩ := DataW.trod_int Try.underlying2 u3
  simp only [List.cons.injEq, and_true] at h1 h2 h3
  subst h1 h2 h3
  simp only [keyCells, List.cons.injEq, and_true] at hk
  obtain ⟨rfl, rfl, rfl⟩ := hk
  exact ⟨⟨k, i1, i2, i3⟩, hcs⟩
theorem decls_of {fuel : Nat} {c : Value} {x : DataW H × List MemPlace} (hf : DataW.trod enc Try.prog W 0 (fun _ => true) true fuel 58 [c] = some x) :
    ∃ (a : Option Addr) (cap : Nat) (L : List DeclP), c = .slice a L.length cap ∧ L.length ≤ maxLen ∧ DeclList W a L := by
  rcases open_slice Try.underlying58 hf with ⟨hcs, _⟩ | ⟨x, l, c', m, n, D, Pl, hcs, _, hl, hm, hmm, _, hall⟩
  · simp at hcs
    subst hcs
    exact ⟨none, 0, [], rfl, by simp [maxLen], fun i h => absurd h (by simp)⟩
  · simp at hcs
    subst hcs
    rw [k_decl] at hall
    simp only [if_true] at hmm
    subst hmm
    haveI : Inhabited DeclP := ⟨⟨(0, 0, 0), 0, 0, 0⟩⟩
    obtain ⟨A, hA⟩ := choose_lt (α := DeclP) (n := m) (p := fun i y => W.cells? 0 (x.add (i * 6)) 6 = some (declL y)) (fun i hi => by
      obtain ⟨cs', h1, h2⟩ := hall i hi
      obtain ⟨y, rfl⟩ := decl_of h2
      exact ⟨y, h1⟩)
    refine ⟨some x, m, (List.range l).map A, by simp, by simp only [List.length_map, List.length_range]; omega, fun i hi => ?_⟩
    have hi' : i < l := by simpa using hi
    have h1 := hA i (by omega)
    have h2 := (World.cells?_some h1).2.2
    have s0 : x.spot = none := by
      have h10 := hA 0 (by omega)
      have := (World.cells?_some h10).2.2 0 (by omega)
      have hq : W.cell? x = some (.int .u8 ((A 0).k.1.toNat : Int)) := by simpa [Addr.add, declL] using this
      exact World.cell?_spot hq
    obtain ⟨b, o, s⟩ := x
    simp only at s0
    subst s0
    rw [List.getElem_map, List.getElem_range]
    refine ⟨b, o, rfl, ?_, ?_, ?_, ?_, ?_, ?_⟩
    · have := h2 0 (by omega); rw [Addr.add_lit, Addr.add_lit] at this; exact this
    · have := h2 1 (by omega); rw [Addr.add_lit, Addr.add_lit] at this; exact this
    · have := h2 2 (by omega); rw [Addr.add_lit, Addr.add_lit] at this; exact this
    · have := h2 3 (by omega); rw [Addr.add_lit, Addr.add_lit] at this; exact this
    · have := h2 4 (by omega); rw [Addr.add_lit, Addr.add_lit] at this; exact this
    · have := h2 5 (by omega); rw [Addr.add_lit, Addr.add_lit] at this; exact this
theorem row_of {fuel : Nat} {c0 c1 c2 c3 : Value} {x : DataW H × List MemPlace} (hf : DataW.trod enc Try.prog W 0 (fun _ => true) true fuel 59 [c0, c1, c2, c3] = some x) :
    ∃ b0 b1 b2 b3 : UInt8, c0 = .int .u8 (b0.toNat : Int) ∧ c1 = .int .u8 (b1.toNat : Int) ∧ c2 = .int .u8 (b2.toNat : Int) ∧ c3 = .int .u8 (b3.toNat : Int) := by
  obtain ⟨xs, m, _, _, _, hlen, hff⟩ := DataW.trod_array Try.underlying59 hf
  obtain ⟨y0, y1, y2, y3, hxs⟩ := list4 hlen
  rw [hxs] at hff
  have u0 : DataW.trod enc Try.prog W 0 (fun _ => true) true m 5 [c0] = some y0 := by
    have h := hff 0 (by decide)
    simpa [k_u8] using h
  have u1 : DataW.trod enc Try.prog W 0 (fun _ => true) true m 5 [c1] = some y1 := by
    have h := hff 1 (by decide)
    simpa [k_u8] using h
  have u2 : DataW.trod enc Try.prog W 0 (fun _ => true) true m 5 [c2] = some y2 := by
    have h := hff 2 (by decide)
    simpa [k_u8] using h
  have u3 : DataW.trod enc Try.prog W 0 (fun _ => true) true m 5 [c3] = some y3 := by
    have h := hff 3 (by decide)
    simpa [k_u8] using h
  obtain ⟨i0, h0, w0⟩ := DataW.trod_int Try.underlying5 u0
  obtain ⟨i1, h1, w1⟩ := DataW.trod_int Try.underlying5 u1
  obtain ⟨i2, h2, w2⟩ := DataW.trod_int Try.underlying5 u2
  obtain ⟨i3, h3, w3⟩ := DataW.trod_int Try.underlying5 u3
  simp only [List.cons.injEq, and_true] at h0 h1 h2 h3
  subst h0 h1 h2 h3
  obtain ⟨b0, rfl⟩ := u8_ofVV w0.2
  obtain ⟨b1, rfl⟩ := u8_ofVV w1.2
  obtain ⟨b2, rfl⟩ := u8_ofVV w2.2
  obtain ⟨b3, rfl⟩ := u8_ofVV w3.2
  exact ⟨b0, b1, b2, b3, rfl, rfl, rfl, rfl⟩
theorem prio_of {fuel : Nat} {c0 c1 c2 c3 c4 c5 c6 c7 c8 c9 c10 c11 c12 c13 c14 c15 : Value} {x : DataW H × List MemPlace} (hf : DataW.trod enc Try.prog W 0 (fun _ => true) true fuel 60 [c0, c1, c2, c3, c4, c5, c6, c7, c8, c9, c10, c11, c12, c13, c14, c15] = some x) :
    ∃ p : Nat → Nat → UInt8, [c0, c1, c2, c3, c4, c5, c6, c7, c8, c9, c10, c11, c12, c13, c14, c15] = [.int .u8 ((p 0 0).toNat : Int), .int .u8 ((p 0 1).toNat : Int), .int .u8 ((p 0 2).toNat : Int), .int .u8 ((p 0 3).toNat : Int), .int .u8 ((p 1 0).toNat : Int), .int .u8 ((p 1 1).toNat : Int), .int .u8 ((p 1 2).toNat : Int), .int .u8 ((p 1 3).toNat : Int), .int .u8 ((p 2 0).toNat : Int), .int .u8 ((p 2 1).toNat : Int), .int .u8 ((p 2 2).toNat : Int), .int .u8 ((p 2 3).toNat : Int), .int .u8 ((p 3 0).toNat : Int), .int .u8 ((p 3 1).toNat : Int), .int .u8 ((p 3 2).toNat : Int), .int .u8 ((p 3 3).toNat : Int)] := by
  obtain ⟨xs, m, _, _, _, hlen, hff⟩ := DataW.trod_array Try.underlying60 hf
  obtain ⟨y0, y1, y2, y3, hxs⟩ := list4 hlen
  rw [hxs] at hff
  have u0 : DataW.trod enc Try.prog W 0 (fun _ => true) true m 59 [c0, c1, c2, c3] = some y0 := by
    have h := hff 0 (by decide)
    simpa [k_row] using h
  have u1 : DataW.trod enc Try.prog W 0 (fun _ => true) true m 59 [c4, c5, c6, c7] = some y1 := by
    have h := hff 1 (by decide)
    simpa [k_row] using h
  have u2 : DataW.trod enc Try.prog W 0 (fun _ => true) true m 59 [c8, c9, c10, c11] = some y2 := by
    have h := hff 2 (by decide)
    simpa [k_row] using h
  have u3 : DataW.trod enc Try.prog W 0 (fun _ => true) true m 59 [c12, c13, c14, c15] = some y3 := by
    have h := hff 3 (by decide)
    simpa [k_row] using h
  obtain ⟨b0, b1, b2, b3, rfl, rfl, rfl, rfl⟩ := row_of u0
  obtain ⟨b4, b5, b6, b7, rfl, rfl, rfl, rfl⟩ := row_of u1
  obtain ⟨b8, b9, b10, b11, rfl, rfl, rfl, rfl⟩ := row_of u2
  obtain ⟨b12, b13, b14, b15, rfl, rfl, rfl, rfl⟩ := row_of u3
  exact ⟨fun i j => ([b0, b1, b2, b3, b4, b5, b6, b7, b8, b9, b10, b11, b12, b13, b14, b15] : List UInt8).getD (4 * i + j) 0, rfl⟩
theorem conf_of {n : Nat} {cs : List Value} {x : DataW H × List MemPlace} (hf : DataW.trod enc Try.prog W 0 (fun _ => true) true n 62 cs = some x) : ∃ (c : ConfP) (a : Option Addr) (k : Nat), cs = [.int .i64 c.sk, .int .i64 c.wa, .slice a c.D.length k, .int .u8 ((c.p 0 0).toNat : Int), .int .u8 ((c.p 0 1).toNat : Int), .int .u8 ((c.p 0 2).toNat : Int), .int .u8 ((c.p 0 3).toNat : Int), .int .u8 ((c.p 1 0).toNat : Int), .int .u8 ((c.p 1 1).toNat : Int), .int .u8 ((c.p 1 2).toNat : Int), .int .u8 ((c.p 1 3).toNat : Int), .int .u8 ((c.p 2 0).toNat : Int), .int .u8 ((c.p 2 1).toNat : Int), .int .u8 ((c.p 2 2).toNat : Int), .int .u8 ((c.p 2 3).toNat : Int), .int .u8 ((c.p 3 0).toNat : Int), .int .u8 ((c.p 3 1).toNat : Int), .int .u8 ((c.p 3 2).toNat : Int), .int .u8 ((c.p 3 3).toNat : Int), .int .i64 c.sg, .int .i64 c.od, .int .i64 c.rt, .int .i64 c.se, .int .i64 c.ca, .int .i64 c.bl, .int .i64 c.bs] ∧ c.D.length ≤ maxLen ∧ DeclList W a c.D ∧ i64 c.bl ∧ i64 c.bs ∧ i64 c.ca := by
  obtain ⟨xs, n, _, _, hl, hlen, hff⟩ := DataW.trod_struct Try.underlying62 hf
  rw [k_conf] at hl
  obtain ⟨c0, c1, c2, c3, c4, c5, c6, c7, c8, c9, c10, c11, c12, c13, c14, c15, c16, c17, c18, c19, c20, c21, c22, c23, c24, c25, hcs⟩ := list26 hl
  obtain ⟨y0, y1, y2, y3, y4, y5, y6, y7, y8, y9, y10, hxs⟩ := list11 (cs := xs) (by simpa using hlen)
  rw [hcs, hxs] at hff
  have u0 : DataW.trod enc Try.prog W 0 (fun _ => true) true n 3 [c0] = some y0 := by
    have h := hff 0 _ (by rfl)
    simpa [k_u8, k_int, k_i64, k_key, k_decls, k_row, k_prio] using h
  have u1 : DataW.trod enc Try.prog W 0 (fun _ => true) true n 3 [c1] = some y1 := by
    have h := hff 1 _ (by rfl)
    simpa [k_u8, k_int, k_i64, k_key, k_decls, k_row, k_prio] using h
  have u2 : DataW.trod enc Try.prog W 0 (fun _ => true) true n 58 [c2] = some y2 := by
    have h := hff 2 _ (by rfl)
    simpa [k_u8, k_int, k_i64, k_key, k_decls, k_row, k_prio] using h
  have u3 : DataW.trod enc Try.prog W 0 (fun _ => true) true n 60 [c3, c4, c5, c6, c7, c8, c9, c10, c11, c12, c13, c14, c15, c16, c17, c18] = some y3 := by
    have h := hff 3 _ (by rfl)
    simpa [k_u8, k_int, k_i64, k_key, k_decls, k_row, k_prio] using h
  have u4 : DataW.trod enc Try.prog W 0 (fun _ => true) true n 3 [c19] = some y4 := by
    have h := hff 4 _ (by rfl)
    simpa [k_u8, k_int, k_i64, k_key, k_decls, k_row, k_prio] using h
  have u5 : DataW.trod enc Try.prog W 0 (fun _ => true) true n 3 [c20] = some y5 := by
    have h := hff 5 _ (by rfl)
    simpa [k_u8, k_int, k_i64, k_key, k_decls, k_row, k_prio] using h
  have u6 : DataW.trod enc Try.prog W 0 (fun _ => true) true n 3 [c21] = some y6 := by
    have h := hff 6 _ (by rfl)
    simpa [k_u8, k_int, k_i64, k_key, k_decls, k_row, k_prio] using h
  have u7 : DataW.trod enc Try.prog W 0 (fun _ => true) true n 3 [c22] = some y7 := by
    have h := hff 7 _ (by rfl)
    simpa [k_u8, k_int, k_i64, k_key, k_decls, k_row, k_prio] using h
  have u8 : DataW.trod enc Try.prog W 0 (fun _ => true) true n 3 [c23] = some y8 := by
    have h := hff 8 _ (by rfl)
    simpa [k_u8, k_int, k_i64, k_key, k_decls, k_row, k_prio] using h
  have u9 : DataW.trod enc Try.prog W 0 (fun _ => true) true n 3 [c24] = some y9 := by
    have h := hff 9 _ (by rfl)
    simpa [k_u8, k_int, k_i64, k_key, k_decls, k_row, k_prio] using h
  have u10 : DataW.trod enc Try.prog W 0 (fun _ => true) true n 3 [c25] = some y10 := by
    have h := hff 10 _ (by rfl)
    simpa [k_u8, k_int, k_i64, k_key, k_decls, k_row, k_prio] using h
  obtain ⟨i0, h0, w0⟩ := DataW.trod_int Try.underlying3 u0
  obtain ⟨i1, h1, w1⟩ := DataW.trod_int Try.underlying3 u1
  obtain ⟨i4, h4, w4⟩ := DataW.trod_int Try.underlying3 u4
  obtain ⟨i5, h5, w5⟩ := DataW.trod_int Try.underlying3 u5
  obtain ⟨i6, h6, w6⟩ := DataW.trod_int Try.underlying3 u6
  obtain ⟨i7, h7, w7⟩ := DataW.trod_int Try.underlying3 u7
  obtain ⟨i8, h8, w8⟩ := DataW.trod_int Try.underlying3 u8
  obtain ⟨i9, h9, w9⟩ := DataW.trod_int Try.underlying3 u9
  obtain ⟨i10, h10, w10⟩ := DataW.trod_int Try.underlying3 u10
  obtain ⟨a, k, L, h2, hmx, hdl⟩ := decls_of u2
  obtain ⟨p, hp⟩ := prio_of u3
  simp only [List.cons.injEq, and_true] at h0 h1 h4 h5 h6 h7 h8 h9 h10 hp
  subst h0 h1 h4 h5 h6 h7 h8 h9 h10 h2
  obtain ⟨rfl, rfl, rfl, rfl, rfl, rfl, rfl, rfl, rfl, rfl, rfl, rfl, rfl, rfl, rfl, rfl⟩ := hp
  exact ⟨⟨i0, i1, L, p, i4, i5, i6, i7, i8, i9, i10⟩, a, k, hcs, hmx, hdl, i64_ofVV w9.2, i64_ofVV w10.2, i64_ofVV w8.2⟩
theorem open_config {base : Nat} {v : Value} {d : DataW H} {p : List MemPlace}
    (hval : Value.okWide Try.prog W .any base 62 v) (h : DataW.Trod enc Try.prog W 0 (fun _ => true) true 62 v d p) :
    ∃ (c : ConfP) (a : Option Addr) (k : Nat), v = .agg #[.int .i64 c.sk, .int .i64 c.wa, .slice a c.D.length k, .int .u8 ((c.p 0 0).toNat : Int), .int .u8 ((c.p 0 1).toNat : Int), .int .u8 ((c.p 0 2).toNat : Int), .int .u8 ((c.p 0 3).toNat : Int), .int .u8 ((c.p 1 0).toNat : Int), .int .u8 ((c.p 1 1).toNat : Int), .int .u8 ((c.p 1 2).toNat : Int), .int .u8 ((c.p 1 3).toNat : Int), .int .u8 ((c.p 2 0).toNat : Int), .int .u8 ((c.p 2 1).toNat : Int), .int .u8 ((c.p 2 2).toNat : Int), .int .u8 ((c.p 2 3).toNat : Int), .int .u8 ((c.p 3 0).toNat : Int), .int .u8 ((c.p 3 1).toNat : Int), .int .u8 ((c.p 3 2).toNat : Int), .int .u8 ((c.p 3 3).toNat : Int), .int .i64 c.sg, .int .i64 c.od, .int .i64 c.rt, .int .i64 c.se, .int .i64 c.ca, .int .i64 c.bl, .int .i64 c.bs] ∧ c.D.length ≤ maxLen ∧ DeclList W a c.D ∧ i64 c.bl ∧ i64 c.bs ∧ i64 c.ca := by
  obtain ⟨cs, rfl, hsz⟩ := okWide_struct Try.underlying62 hval
  obtain ⟨fuel, hf⟩ := h
  obtain ⟨c, a, k, hcs, h1, h2, h3⟩ := conf_of hf
  obtain ⟨l⟩ := cs
  simp only [Value.cells] at hcs
  exact ⟨c, a, k, by rw [show l = _ from hcs], h1, h2, h3⟩
theorem open_key {base : Nat} {v : Value} {d : DataW H} {p : List MemPlace}
    (hval : Value.okWide Try.prog W .any base 96 v) (h : DataW.Trod enc Try.prog W 0 (fun _ => true) true 96 v d p) :
    ∃ k : KeyP, v = .agg #[.int .u8 (k.1.toNat : Int), .int .u8 (k.2.1.toNat : Int), .int .u8 (k.2.2.toNat : Int)] := by
  obtain ⟨cs, rfl, hsz⟩ := okWide_struct Try.underlying96 hval
  obtain ⟨fuel, hf⟩ := h
  obtain ⟨k, hcs⟩ := key_of hf
  obtain ⟨l⟩ := cs
  simp only [Value.cells] at hcs
  exact ⟨k, by rw [show l = _ from hcs]; rfl⟩
end

end Go.Proofs.Ytomnhgcjdnhijaa
