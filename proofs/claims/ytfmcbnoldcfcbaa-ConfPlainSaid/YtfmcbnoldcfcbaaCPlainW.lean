/-
  ConfPlain.
-/
import Derived.Test.YtfmcbnoldcfcbaaCSame
import Derived.Test.YtfmcbnoldcfcbaaCRPlain
import Derived.Test.YtfmcbnoldcfcbaaCArgs
namespace Go.Proofs.Ytfmcbnoldcfcbaa
open Go.RowKit Go.ChangeShapes Go.WideShapes Go.ChangeAt Go.Deep
set_option maxRecDepth 100000

theorem plainF_len_le (x y i h : Int) : (plainF x y i h).D.length ≤ 40 := by
  unfold plainF
  rw [plainN_D, List.length_map, keysF_len]
  exact countF_le _ _
theorem plainF_bl (x y i h : Int) : i64 (plainF x y i h).bl := by unfold plainF; simp only [plainN, plain0]; unfold i64; omega
set_option maxHeartbeats 12800000 in
theorem confPlain_walk (x y i h : Int) (w : World) : Calls Try.prog 9 #[.int .i64 x, .int .i64 y, .agg #[.int .i64 i, .int .i64 h]] w fun e w' => e = .returned (.bool true) ∧ Below w.heap.size w w' := by
  have hl40 := plainF_len_le x y i h
  have hck := plainF_check x y i h
  have hbl := plainF_bl x y i h
  have HP := Lib.hid (fun u => conf_plain x y i h u)
  have HR := Lib.hid (fun u => ref_plain x y i h u)
  generalize plainF x y i h = C at *
  obtain ⟨n, hn⟩ : ∃ n, C.D.length = n := ⟨_, rfl⟩
  unfold PlainPost at HP HR
  rw [hn] at HP HR hl40
  have hmx : n ≤ maxLen := by unfold maxLen; omega
  have HS := Lib.hid (fun a a' k k' u (hd : DeclList u a C.D) (hd' : DeclList u a' C.D) => ref_same C a a' n k k' u hd hd' hn hmx)
  have HC := Lib.hid (fun a k u (hd : DeclList u a C.D) => hck ▸ conf_check C a n k u hd hn hmx hbl)
  have HW := Lib.hid (fun u => conf_works u)
  clear hck hbl hn hmx
  have hbx := Box.new w 56 [.int .i64 i, .int .i64 h] w.heap.size rfl
  have HG1 := Lib.hid (World.grownBy_alloc w (.cells #[.int .i64 i, .int .i64 h] 56) none)
  have HBX := Lib.hid hbx
  have hb0 := hbx.look
  clear hbx
  go_enter Try.func9, Try.ntmps9
  go_wp2_with fail
  generalize w.alloc (.cells #[.int .i64 i, .int .i64 h] 56) = w1 at *
  refine (HP.out _).mono ?_
  rintro r w2 ⟨a, k, rfl, hd, hg⟩
  have HD := Lib.hid hd
  have HG2 := Lib.hid hg
  have hrw := range_conf (Box.new w2 49 [.int .i64 C.sk, .int .i64 C.wa, .slice a n k, .int .u8 ((C.p 0 0).toNat : Int), .int .u8 ((C.p 0 1).toNat : Int), .int .u8 ((C.p 0 2).toNat : Int), .int .u8 ((C.p 0 3).toNat : Int), .int .u8 ((C.p 1 0).toNat : Int), .int .u8 ((C.p 1 1).toNat : Int), .int .u8 ((C.p 1 2).toNat : Int), .int .u8 ((C.p 1 3).toNat : Int), .int .u8 ((C.p 2 0).toNat : Int), .int .u8 ((C.p 2 1).toNat : Int), .int .u8 ((C.p 2 2).toNat : Int), .int .u8 ((C.p 2 3).toNat : Int), .int .u8 ((C.p 3 0).toNat : Int), .int .u8 ((C.p 3 1).toNat : Int), .int .u8 ((C.p 3 2).toNat : Int), .int .u8 ((C.p 3 3).toNat : Int), .int .i64 C.sg, .int .i64 C.od, .int .i64 C.rt, .int .i64 C.se, .int .i64 C.ca, .int .i64 C.bl, .int .i64 C.bs] w2.heap.size rfl)
  obtain ⟨cs, hcs⟩ : ∃ cs : List Value, [.int .i64 C.sk, .int .i64 C.wa, .slice a n k, .int .u8 ((C.p 0 0).toNat : Int), .int .u8 ((C.p 0 1).toNat : Int), .int .u8 ((C.p 0 2).toNat : Int), .int .u8 ((C.p 0 3).toNat : Int), .int .u8 ((C.p 1 0).toNat : Int), .int .u8 ((C.p 1 1).toNat : Int), .int .u8 ((C.p 1 2).toNat : Int), .int .u8 ((C.p 1 3).toNat : Int), .int .u8 ((C.p 2 0).toNat : Int), .int .u8 ((C.p 2 1).toNat : Int), .int .u8 ((C.p 2 2).toNat : Int), .int .u8 ((C.p 2 3).toNat : Int), .int .u8 ((C.p 3 0).toNat : Int), .int .u8 ((C.p 3 1).toNat : Int), .int .u8 ((C.p 3 2).toNat : Int), .int .u8 ((C.p 3 3).toNat : Int), .int .i64 C.sg, .int .i64 C.od, .int .i64 C.rt, .int .i64 C.se, .int .i64 C.ca, .int .i64 C.bl, .int .i64 C.bs] = cs := ⟨_, rfl⟩
  have hl : cs.length = 26 := by rw [← hcs]; rfl
  have h1 : cs.all (·.oneCell') = true := by rw [← hcs]; rfl
  have HS := Lib.hid (fun a' k' u (hd : DeclList u a C.D) (hd' : DeclList u a' C.D) => HS.out a a' k k' u hd hd')
  have HC := Lib.hid (HC.out a k)
  rw [hcs] at HS HC hrw ⊢
  have hst : (w2.alloc (.cells #[.int .i64 0, .int .i64 0, .slice none 0 0, .int .u8 0, .int .u8 0, .int .u8 0, .int .u8 0, .int .u8 0, .int .u8 0, .int .u8 0, .int .u8 0, .int .u8 0, .int .u8 0, .int .u8 0, .int .u8 0, .int .u8 0, .int .u8 0, .int .u8 0, .int .u8 0, .int .i64 0, .int .i64 0, .int .i64 0, .int .i64 0, .int .i64 0, .int .i64 0, .int .i64 0] 49)).setRow w2.heap.size cs.toArray = w2.alloc (.cells cs.toArray 49) := Go.World.setRow_alloc_new _ _ _ _
  have HST := Lib.hid (fun _ : True => hst); have HL := Lib.hid hl; have H1 := Lib.hid (fun _ : True => h1)
  have hbw := Box.new w2 49 cs _ rfl
  have HGW := Lib.hid (World.grownBy_alloc w2 (.cells cs.toArray 49) none)
  obtain ⟨w3, hw3⟩ : ∃ u, w2.alloc (.cells cs.toArray 49) = u := ⟨_, rfl⟩
  rw [hw3] at HST hbw HGW
  have HBW := Lib.hid hbw
  have HS := Lib.hid (fun a' k' u (hu : w3.grownBy u none) (hd' : DeclList u a' C.D) => HS.out a' k' u (HD.out.grown (grown_trans HGW.out hu)) hd')
  have HC := Lib.hid (fun u (hu : w3.grownBy u none) => HC.out u (HD.out.grown (grown_trans HGW.out hu)))
  have XB := look_later ((HBX.out.grown HG2.out).grown HGW.out)
  have HGG := Lib.hid (grown_trans HG1.out (grown_trans HG2.out HGW.out))
  clear hd hg hcs hl h1 hst hbw hw3 hb0 hrw
  have hS0 : w3.grownBy w3.drew none := grown_drew1 _
  have hS1 : w3.grownBy w3 none := World.grownBy.refl _ _
  go_wp2_with (refine wpList_store_conf (o := ⟨none, .store 49 _ _, _, _, _, _⟩) rfl _ _ rfl w2.heap.size _ _ rfl rfl (Box.new w2 _ [.int .i64 0, .int .i64 0, .slice none 0 0, .int .u8 0, .int .u8 0, .int .u8 0, .int .u8 0, .int .u8 0, .int .u8 0, .int .u8 0, .int .u8 0, .int .u8 0, .int .u8 0, .int .u8 0, .int .u8 0, .int .u8 0, .int .u8 0, .int .u8 0, .int .u8 0, .int .i64 0, .int .i64 0, .int .i64 0, .int .i64 0, .int .i64 0, .int .i64 0, .int .i64 0] _ rfl) HL.out rfl (H1.out trivial) ?_; rw [HST.out trivial])
  obtain ⟨N, hN⟩ : ∃ N : Nat, N = 26 := ⟨_, rfl⟩
  have HLD := Lib.hid (fun u (hg : w3.grownBy u none) => load_row u w2.heap.size cs N (by rw [hN]; exact HL.out) (range_conf (HBW.out.grown hg)))
  have ld := HLD.out
  obtain ⟨T, hT⟩ : ∃ T : TypeId, T = 49 := ⟨_, rfl⟩
  have t1 : ∀ u, (isAgg T).run Try.prog u = .ok true u := fun u => by rw [hT]; exact Try.isAgg49 u
  have t2 : ∀ u, (sizeOf T).run Try.prog u = .ok N u := fun u => by rw [hT, hN]; exact Try.sizeOf49 u
  rw [show Op.load 49 (Operand.tmp 7) = Op.load T (Operand.tmp 7) from by rw [hT]]
  have HTT := Lib.hid hT; have HNN := Lib.hid hN
  clear hT hN
  go_region_held_law (fun w' => w3.grownBy w' none) (with_reducible (first | assumption | exact keepA' (by assumption))) (first
    | (go_at_call 39; (with_reducible refine (HR.out _).mono ?_); rintro r w4 ⟨a4, k4, rfl, hd4, hg4⟩; have hSa := growT hg4 (by with_reducible assumption))
    | (go_at_call 38; (with_reducible refine (HS.out _ _ _ (by with_reducible assumption) hd4).mono ?_); rintro r w5 ⟨rfl, hg5⟩; have hSb := growT hg5 (by with_reducible assumption))
    | (go_at_call 27; (with_reducible refine (HC.out _ (by with_reducible assumption)).mono ?_); rintro r w6 ⟨rfl, hg6⟩; have hSc := growT hg6 (by with_reducible assumption))
    | (go_at_call 26; (with_reducible refine (HW.out _).mono ?_); rintro r w7 ⟨rfl, hg7⟩; have hSd := growT hg7 (by with_reducible assumption)))
  all_goals (
    have HG7 := Lib.hid (grown_trans HGG.out (by with_reducible assumption))
    clear XB ld t1 t2 hS0 hS1
    go_wp2_with fail
    go_ret
    exact ⟨rfl, grown_below HG7.out⟩)
section
variable {H : Type} {enc : TypeId × Value → H} {W : World}
theorem k_pair : Try.prog.cellsOf 56 = 2 := by kernel_rfl
theorem list2 {α : Type} {cs : List α} (h : cs.length = 2) : ∃ c0 c1, cs = [c0, c1] := by
  obtain ⟨c0, r0, rfl, h0⟩ := list_one h
  obtain ⟨c1, r1, rfl, h1⟩ := list_one h0
  obtain rfl := List.eq_nil_of_length_eq_zero h1
  exact ⟨c0, c1, rfl⟩
theorem okWide_array {P : Program} {w : World} {r : Reach} {base : Nat} {t : TypeId} {v : Value} {n : Nat} {e : TypeId} (ht : P.underlying t = some (.array n e)) (h : Value.okWide P w r base t v) : ∃ cs, v = .agg cs ∧ cs.size = P.cellsOf t := by
  simp only [Value.okWide, ht] at h
  obtain ⟨cs, h1, h2, _⟩ := h
  exact ⟨cs, h1, h2⟩
theorem open_pair {base : Nat} {v : Value} {d : DataW H} {p : List MemPlace}
    (hval : Value.okWide Try.prog W .any base 56 v) (h : DataW.Trod enc Try.prog W 0 (fun _ => true) true 56 v d p) :
    ∃ y z : Int, v = .agg #[.int .i64 y, .int .i64 z] := by
  obtain ⟨cs, rfl, hsz⟩ := okWide_array Try.underlying56 hval
  obtain ⟨fuel, hf⟩ := h
  obtain ⟨xs, m, _, _, hl, hlen, hff⟩ := DataW.trod_array Try.underlying56 hf
  rw [k_pair] at hl
  obtain ⟨c0, c1, hcs⟩ := list2 hl
  obtain ⟨y0, y1, hxs⟩ := list2 hlen
  rw [hcs, hxs] at hff
  have u0 : DataW.trod enc Try.prog W 0 (fun _ => true) true m 2 [c0] = some y0 := by
    have h := hff 0 (by decide)
    simpa [k_i64] using h
  have u1 : DataW.trod enc Try.prog W 0 (fun _ => true) true m 2 [c1] = some y1 := by
    have h := hff 1 (by decide)
    simpa [k_i64] using h
  obtain ⟨i0, h0, w0⟩ := DataW.trod_int Try.underlying2 u0
  obtain ⟨i1, h1, w1⟩ := DataW.trod_int Try.underlying2 u1
  simp only [List.cons.injEq, and_true] at h0 h1
  subst h0 h1
  obtain ⟨l⟩ := cs
  simp only [Value.cells] at hcs
  exact ⟨i0, i1, by rw [show l = _ from hcs]⟩
end

end Go.Proofs.Ytfmcbnoldcfcbaa
