/-
  The chapter's example; the plain configuration may be.
-/
import Derived.Test.YtfmcbnoldcfcbaaCPlain
namespace Go.Proofs.Ytfmcbnoldcfcbaa
open Go.RowKit
set_option maxRecDepth 100000

theorem gotF_congr {p q : Nat → UInt8} {v : Nat} : ∀ n, (∀ j < n, p j = q j) → ∀ i, gotF p v n i = gotF q v n i := by
  intro n
  induction n with
  | zero => intro _ i; rfl
  | succ n ih =>
    intro h i
    show (gotF p v n i || _) = (gotF q v n i || _)
    rw [ih (fun j hj => h j (by omega)), h n (by omega)]
theorem namedF_congr {p q : Nat → UInt8} {v : Nat} (h : ∀ j < v, p j = q j) : namedF p v = namedF q v := by
  unfold namedF
  rw [gotF_congr v h, gotF_congr v h, gotF_congr v h, gotF_congr v h]
theorem namedF_id {v : Nat} (h1 : 1 ≤ v) (h4 : v ≤ 4) : namedF (fun j => UInt8.ofNat j) v = true := by
  have : v = 1 ∨ v = 2 ∨ v = 3 ∨ v = 4 := by omega
  rcases this with rfl | rfl | rfl | rfl <;> decide
theorem plainN_need_le (s v : Nat) (I H : Int) : 1 ≤ needF (plain0 s v I H 0) ∧ needF (plain0 s v I H 0) ≤ 1024 := by
  have h1 := (needs_le (plain0 s v I H 0)).1
  have h2 : tablesF (plain0 s v I H 0) = 51 := by
    unfold tablesF
    simp only [plain0]
    decide
  unfold needF areaF
  omega
theorem needF_bs (c : ConfP) (b : Int) : needF { c with bs := b } = needF c := rfl
theorem plainN_check (s v : Nat) (I H : Int) (hs : 1 ≤ s ∧ s ≤ 4) (hv : 1 ≤ v ∧ v ≤ 4) (hI : 0 ≤ I) (hH : I ≤ H) : checkF (plainN s v I H) = 0 := by
  have hb := plainN_need_le s v I H
  have hn : numbersF (plainN s v I H) = true := by
    unfold plainN
    generalize needF (plain0 s v I H 0) = z at *
    unfold numbersF btw
    simp [plain0]
    exact ⟨⟨⟨decide_eq_true (by omega), decide_eq_true (by omega)⟩, decide_eq_true (by omega), decide_eq_true (by omega)⟩, decide_eq_true (by omega), decide_eq_true (by omega)⟩
  have hk : (plainN s v I H).D.map (·.k) = keysF (plainN s v I H).sk (plainN s v I H).wa := by
    rw [plainN_D, List.map_map]
    have : ((fun d : DeclP => d.k) ∘ mkD I H) = id := rfl
    rw [this, List.map_id]
    simp only [plainN, plain0]
  have ho : (plainN s v I H).D.any outB = false := by
    rw [plainN_D, List.any_eq_false]
    intro d hd
    obtain ⟨k, _, rfl⟩ := List.mem_map.1 hd
    simp only [outB, mkD]
    split <;> simp <;> omega
  have ha : allNamed (plainN s v I H) = true := by
    unfold allNamed
    rw [List.all_eq_true]
    intro i hi
    have hi' : i < s := by
      have := List.mem_range.1 hi
      simp only [plainN, plain0, Int.toNat_natCast] at this
      exact this
    have h1 : namedF ((plainN s v I H).p i) (plainN s v I H).wa.toNat = namedF (prioF s v 0 i) v := by simp only [plainN, plain0, Int.toNat_natCast]
    rw [h1, namedF_congr (q := fun j => UInt8.ofNat j) (fun j hj => by unfold prioF; rw [if_pos (by omega)]), namedF_id hv.1 hv.2]
  have hN : needF (plainN s v I H) = needF (plain0 s v I H 0) := rfl
  unfold checkF
  rw [if_neg (by rw [hn]; simp), if_neg (by rw [hk]; simp), if_neg (by rw [ho]; simp), if_neg (by rw [ha]; simp), if_neg (by simp only [plainN, plain0]; omega), if_neg (by rw [hN]; simp only [plainN, plain0]; omega)]
theorem plainF_check (x y i h : Int) : checkF (plainF x y i h) = 0 :=
  plainN_check _ _ _ _ (clamp4_le x) (clamp4_le y) (Int.le_max_right ..) (Int.le_max_right ..)
theorem plainF_len : (plainF 1 1 5 9).D.length = 4 := by
  unfold plainF
  rw [plainN_D, List.length_map, keysF_len]
  decide
theorem plainF_heads : headsF (plainF 1 1 5 9) = 1 := by
  unfold headsF plainF
  simp only [plainN, plain0]
  decide
theorem plainF_area : areaF (plainF 1 1 5 9) = 52 := by
  unfold areaF
  rw [plainF_heads]
  unfold tablesF plainF
  simp only [plainN, plain0]
  decide
theorem plainF_need : needF (plainF 1 1 5 9) = 106 := by
  unfold needF
  rw [plainF_area]
theorem wpList_load_confG {ops : Array Oper} {rest : List Oper} {o : Oper} {a : Act} {w : World} {Q : Exit → Act → World → Prop} (hw : Region.wanted o (yielded ops a.tmps) = true) (x : Operand) (ho : o.op = .load 49 x)
    (g : Nat) (cs : List Value) (hx : a.eval x = .pointer (some ⟨g, 0, none⟩)) (hb : Box w g 49 cs) (hl : cs.length = 26)
    (h : wpList Try.prog ops Q rest (a.put o.dst (.agg cs.toArray)) w) : wpList Try.prog ops Q (o :: rest) a w :=
  wpList_step fun K hK => by
    rw [if_pos hw]
    exact wp_load_mid _ x ho g 0 hx cs _ (range_conf hb) Try.underlying49 rfl (by rw [hl]; exact info_conf) (hK _ _ h)
set_option maxHeartbeats 12800000 in
theorem conf_works (w : World) : Calls Try.prog 26 #[] w fun r w' => r = .returned (.bool true) ∧ w.grownBy w' none := by
  have HP := Lib.hid (conf_plain 1 1 5 9 w)
  have h1 := plainF_check 1 1 5 9
  have h2 := plainF_len
  have h3 := plainF_heads
  have h4 := plainF_area
  have h5 := plainF_need
  have h6 : i64 (plainF 1 1 5 9).bl := by unfold plainF; simp only [plainN, plain0]; unfold i64; omega
  obtain ⟨C, hC⟩ : ∃ C, plainF 1 1 5 9 = C := ⟨_, rfl⟩
  rw [hC] at HP h1 h2 h3 h4 h5 h6
  clear hC
  have HCK := Lib.hid (fun a k u (hd : DeclList u a C.D) => h1 ▸ conf_check C a 4 k u hd h2 (by unfold maxLen; omega) h6)
  have HHE := Lib.hid (fun a k u => h3 ▸ conf_heads C a 4 k u h6)
  have HAR := Lib.hid (fun a k u => h4 ▸ conf_area C a 4 k u h6)
  have HNE := Lib.hid (fun a k u => h5 ▸ conf_need C a 4 k u h6)
  have HMO := Lib.hid (fun u => (show mostF 8 32 = 12932 by decide) ▸ conf_most 8 32 u)
  unfold PlainPost at HP
  rw [h2] at HP
  clear h1 h2 h3 h4 h5 h6
  go_enter Try.func26, Try.ntmps26
  go_wp2_with fail
  refine HP.out.mono ?_
  rintro r w1 ⟨a, k, rfl, hd, hg⟩
  have HCK := Lib.hid (fun u (hu : w1.grownBy u none) => HCK.out a k u (hd.grown hu))
  have HHE := Lib.hid (HHE.out a k)
  have HAR := Lib.hid (HAR.out a k)
  have HNE := Lib.hid (HNE.out a k)
  have HG := Lib.hid hg
  obtain ⟨cs, hcs⟩ : ∃ cs : List Value, [.int .i64 C.sk, .int .i64 C.wa, .slice a 4 k, .int .u8 ((C.p 0 0).toNat : Int), .int .u8 ((C.p 0 1).toNat : Int), .int .u8 ((C.p 0 2).toNat : Int), .int .u8 ((C.p 0 3).toNat : Int), .int .u8 ((C.p 1 0).toNat : Int), .int .u8 ((C.p 1 1).toNat : Int), .int .u8 ((C.p 1 2).toNat : Int), .int .u8 ((C.p 1 3).toNat : Int), .int .u8 ((C.p 2 0).toNat : Int), .int .u8 ((C.p 2 1).toNat : Int), .int .u8 ((C.p 2 2).toNat : Int), .int .u8 ((C.p 2 3).toNat : Int), .int .u8 ((C.p 3 0).toNat : Int), .int .u8 ((C.p 3 1).toNat : Int), .int .u8 ((C.p 3 2).toNat : Int), .int .u8 ((C.p 3 3).toNat : Int), .int .i64 C.sg, .int .i64 C.od, .int .i64 C.rt, .int .i64 C.se, .int .i64 C.ca, .int .i64 C.bl, .int .i64 C.bs] = cs := ⟨_, rfl⟩
  have hl : cs.length = 26 := by rw [← hcs]; rfl
  have h1 : cs.all (·.oneCell') = true := by rw [← hcs]; rfl
  have h2 : cs[2]? = some (.slice a 4 k) := by rw [← hcs]; rfl
  rw [hcs] at HCK HHE HAR HNE ⊢
  have hst : (w1.alloc (.cells #[.int .i64 0, .int .i64 0, .slice none 0 0, .int .u8 0, .int .u8 0, .int .u8 0, .int .u8 0, .int .u8 0, .int .u8 0, .int .u8 0, .int .u8 0, .int .u8 0, .int .u8 0, .int .u8 0, .int .u8 0, .int .u8 0, .int .u8 0, .int .u8 0, .int .u8 0, .int .i64 0, .int .i64 0, .int .i64 0, .int .i64 0, .int .i64 0, .int .i64 0, .int .i64 0] 49)).setRow w1.heap.size cs.toArray = w1.alloc (.cells cs.toArray 49) := Go.World.setRow_alloc_new _ _ _ _
  have HST := Lib.hid (fun _ : True => hst); have HL := Lib.hid hl; have H1 := Lib.hid (fun _ : True => h1)
  have hbx := Box.new w1 49 cs _ rfl
  have HBX := Lib.hid hbx
  have HGW := Lib.hid (World.grownBy_alloc w1 (.cells cs.toArray 49) none)
  obtain ⟨w2, hw2⟩ : ∃ u, w1.alloc (.cells cs.toArray 49) = u := ⟨_, rfl⟩
  rw [hw2] at HST HBX HGW
  have HB := Lib.hid (fun u (h : w2.grownBy u none) => HBX.out.grown h)
  clear hd hg hcs hl h1 hst hbx hw2
  have X2 : ∀ u, w2.grownBy u none → u.cell? ⟨w1.heap.size, 2, none⟩ = some (.slice a 4 k) := fun u h => (HB.out u h).cell 2 h2
  have hr0 : w2.grownBy w2 none := World.grownBy.refl _ _
  have HG2 := Lib.hid (grown_trans HG.out HGW.out)
  clear h2
  go_wp2_with (first
    | (refine wpList_store_conf (o := ⟨none, .store 49 _ _, _, _, _, _⟩) rfl _ _ rfl w1.heap.size _ _ rfl rfl (Box.new w1 _ [.int .i64 0, .int .i64 0, .slice none 0 0, .int .u8 0, .int .u8 0, .int .u8 0, .int .u8 0, .int .u8 0, .int .u8 0, .int .u8 0, .int .u8 0, .int .u8 0, .int .u8 0, .int .u8 0, .int .u8 0, .int .u8 0, .int .u8 0, .int .u8 0, .int .u8 0, .int .i64 0, .int .i64 0, .int .i64 0, .int .i64 0, .int .i64 0, .int .i64 0, .int .i64 0] _ rfl) HL.out rfl (H1.out trivial) ?_; rw [HST.out trivial])
    | (refine wpList_load_conf (o := ⟨some 3, _, _, _, _, _⟩) rfl _ rfl w1.heap.size _ rfl (HB.out _ (by with_reducible assumption)) HL.out ?_)
    | (refine wpList_load_confG (o := ⟨some 13, _, _, _, _, _⟩) (by go_simp) _ rfl w1.heap.size _ rfl (HB.out _ (by with_reducible assumption)) HL.out ?_)
    | (refine wpList_load_confG (o := ⟨some 22, _, _, _, _, _⟩) (by go_simp) _ rfl w1.heap.size _ rfl (HB.out _ (by with_reducible assumption)) HL.out ?_)
    | (refine wpList_load_confG (o := ⟨some 27, _, _, _, _, _⟩) (by go_simp) _ rfl w1.heap.size _ rfl (HB.out _ (by with_reducible assumption)) HL.out ?_)
    | (go_at_call 27; (with_reducible refine (HCK.out _ (growT (by with_reducible assumption : w2.grownBy _ none) HGW.out)).mono ?_); rintro r w3 ⟨rfl, gw3⟩; have kw3 := growT gw3 (by with_reducible assumption : w2.grownBy _ none))
    | (go_at_call 29; (with_reducible refine (HHE.out _).mono ?_); rintro r w4 ⟨rfl, gw4⟩; have kw4 := growT gw4 (by with_reducible assumption : w2.grownBy _ none))
    | (go_at_call 31; (with_reducible refine (HAR.out _).mono ?_); rintro r w5 ⟨rfl, gw5⟩; have kw5 := growT gw5 (by with_reducible assumption : w2.grownBy _ none))
    | (go_at_call 33; (with_reducible refine (HNE.out _).mono ?_); rintro r w6 ⟨rfl, gw6⟩; have kw6 := growT gw6 (by with_reducible assumption : w2.grownBy _ none))
    | (go_at_call 35; (with_reducible refine (HMO.out _).mono ?_); rintro r w7 ⟨rfl, rfl⟩))
  go_ret
  exact ⟨rfl, grown_trans HG2.out (by with_reducible assumption)⟩

end Go.Proofs.Ytfmcbnoldcfcbaa
