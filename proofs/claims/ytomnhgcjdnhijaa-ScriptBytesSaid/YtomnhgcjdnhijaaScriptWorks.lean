/-
  Events: the example; ScriptGood; ScriptBytes.
-/
import Derived.Test.YtomnhgcjdnhijaaScriptPlain
namespace Go.Proofs.Ytomnhgcjdnhijaa
open Go.RowKit
set_option maxRecDepth 100000

def EvL0 : List EvP := [⟨2, 5, 0, 0, []⟩, ⟨5, 0, 0, 0, []⟩]
theorem evl0_enc : encE EvL0 = ([2, 0, 2, 5, 0, 0, 0, 5], 0) := by decide +kernel
theorem evl0_good : EvL0.all EvP.good = true := by decide +kernel
theorem evl0_ok : ∀ e ∈ EvL0, e.ok := by
  intro e he
  simp only [EvL0, List.mem_cons, List.not_mem_nil, or_false] at he
  rcases he with rfl | rfl <;> exact ⟨by decide, by decide, by decide⟩
theorem evl0_dec : decE [2, 0, 2, 5, 0, 0, 0, 5] = (EvL0, 0) := by
  have h := dec_encE evl0_good evl0_ok (by decide)
  have e := evl0_enc
  unfold encE at e
  rw [if_pos evl0_good, if_neg (by decide)] at e
  rw [show numB EvL0.length 2 ++ allB EvL0 = [2, 0, 2, 5, 0, 0, 0, 5] from congrArg Prod.fst e] at h
  exact h

set_option maxHeartbeats 1600000 in
theorem script_works (w : World) :
    Calls Try.prog 18 #[] w fun r w' => r = .returned (.bool true) ∧ w.grownBy w' none := by
  have hb := Box.new w 52 [.int .u8 2, .int .u32 5, .int .i64 0, .int .i64 0, .slice none 0 0, .int .u8 5, .int .u32 0, .int .i64 0, .int .i64 0, .slice none 0 0] w.heap.size rfl
  have hE : EvList (w.alloc (.cells #[.int .u8 2, .int .u32 5, .int .i64 0, .int .i64 0, .slice none 0 0, .int .u8 5, .int .u32 0, .int .i64 0, .int .i64 0, .slice none 0 0] 52)) (some ⟨w.heap.size, 0, none⟩) EvL0 := by
    intro i hi
    have hi2 : i < 2 := hi
    rcases (show i = 0 ∨ i = 1 by omega) with rfl | rfl
    · exact ⟨_, _, none, 0, 0, rfl, hb.look 0, hb.look 1, hb.look 2, hb.look 3, hb.look 4, rfl, RB.nil _ _⟩
    · exact ⟨_, _, none, 0, 0, rfl, hb.look 5, hb.look 6, hb.look 7, hb.look 8, hb.look 9, rfl, RB.nil _ _⟩
  have HC := Lib.hid (script_encode (some ⟨w.heap.size, 0, none⟩) 2 2 EvL0 _ hE rfl evl0_ok (by simp [maxLen]))
  rw [evl0_enc] at HC
  have HGA := Lib.hid (World.grownBy_alloc w (.cells #[.int .u8 2, .int .u32 5, .int .i64 0, .int .i64 0, .slice none 0 0, .int .u8 5, .int .u32 0, .int .i64 0, .int .i64 0, .slice none 0 0] 52) none)
  clear hb hE
  go_enter Try.func18, Try.ntmps18
  go_wp2_with fail
  refine HC.out.mono ?_
  rintro r w1 ⟨a1, n1, c1, rfl, hn1, hr1, hg1⟩
  have HN1 := Lib.hid hn1; have HR1 := Lib.hid hr1; have HG1 := Lib.hid (grown_trans HGA.out hg1)
  clear hn1 hr1 hg1
  go_wp2_with fail
  have hd := script_decode a1 n1 c1 _ w1 HN1.out HR1.out (by rw [← HN1.out]; decide)
  rw [evl0_dec] at hd
  refine hd.mono ?_
  clear hd
  rintro r w2 ⟨a2, n2, c2, rfl, hn2, hl2, hg2⟩
  obtain rfl : n2 = 2 := hn2.symm
  have hst := string_bytes a1 n1 c1 _ w2 (HR1.out.old (grown_below hg2)) HN1.out
  rw [show strB ([2, 0, 2, 5, 0, 0, 0, 5], (0 : Int)).1 = ⟨#[2, 0, 2, 5, 0, 0, 0, 5]⟩ from rfl] at hst
  obtain ⟨b, o, q, m, d, ha, h0, h1, h2, h3, h4, hb⟩ := hl2 0 (by decide)
  obtain ⟨b', o', q', m', d', ha', h0', h1', h2', h3', h4', hb'⟩ := hl2 1 (by decide)
  rw [ha] at ha'
  cases ha'
  subst ha
  have hm' : m' = 0 := hb'.len.symm
  subst hm'
  simp only [Nat.zero_mul, Nat.add_zero, Nat.one_mul] at h1 h0' h1' h2' h3' h4'
  have e1 : w2.cell? ⟨b, o + 1, none⟩ = some (.int .u32 5) := h1
  have f0 : w2.cell? ⟨b, o + 5, none⟩ = some (.int .u8 5) := h0'
  have f1 : w2.cell? ⟨b, o + 5 + 1, none⟩ = some (.int .u32 0) := h1'
  have f2 : w2.cell? ⟨b, o + 5 + 2, none⟩ = some (.int .i64 0) := h2'
  have f3 : w2.cell? ⟨b, o + 5 + 3, none⟩ = some (.int .i64 0) := h3'
  have f4 : w2.cell? ⟨b, o + 5 + 4, none⟩ = some (.slice q' 0 d') := h4'
  have HG2 := Lib.hid (grown_trans HG1.out hg2)
  have HC2 := Lib.hid (fun w' => script_good 5 0 0 0 q' 0 d' (by decide) w')
  rw [show goodE 5 0 0 0 0 = true from by decide] at HC2
  clear hn2 hl2 hg2 h0 h1 h2 h3 h4 hb h0' h1' h2' h3' h4' hb'
  go_wp2_with fail
  refine (HC2.out _).mono ?_
  rintro r w3 ⟨rfl, hg3⟩
  have HG3 := Lib.hid (grown_trans HG2.out hg3)
  clear hg3
  go_wp2_with fail
  go_ret
  exact ⟨rfl, HG3.out⟩

theorem ev_two {u : World} {g : Nat} {e f : EvP} {q : Option Addr} {m d : Nat} {q' : Option Addr} {m' d' : Nat} (hB : Box u g 52 [.int .u8 (e.k.toNat : Int), .int .u32 (e.s : Int), .int .i64 e.p, .int .i64 e.t, .slice q m d, .int .u8 (f.k.toNat : Int), .int .u32 (f.s : Int), .int .i64 f.p, .int .i64 f.t, .slice q' m' d'])
    (hb : EvB u e q m d) (hb' : EvB u f q' m' d') : EvList u (some ⟨g, 0, none⟩) [e, f] := by
  intro i hi
  have hi2 : i < 2 := hi
  rcases (show i = 0 ∨ i = 1 by omega) with rfl | rfl
  · exact ⟨_, _, q, m, d, rfl, hB.look 0, hB.look 1, hB.look 2, hB.look 3, hB.look 4, hb⟩
  · exact ⟨_, _, q', m', d', rfl, hB.look 5, hB.look 6, hB.look 7, hB.look 8, hB.look 9, hb'⟩
theorem look_later {w : World} {g : Nat} {T : TypeId} {cs : List Value} (hb : Box w g T cs) : ∀ w', w.grownBy w' none → ∀ i, w'.cell? ⟨g, i, none⟩ = cs[i]? := fun _ hg => (hb.grown hg).look
theorem growA3 (w : World) (o o' o'' : Obj) : w.grownBy (((w.alloc o).alloc o').alloc o'') none := growA _ _ (growA2 w o o')

set_option maxHeartbeats 3200000 in
theorem scriptGood_walk (e f : EvP) (q : Option Addr) (m d : Nat) (q' : Option Addr) (m' d' : Nat) (w : World) (hb : EvB w e q m d) (hb' : EvB w f q' m' d') :
    Calls Try.prog 8 #[.agg #[.int .u8 (e.k.toNat : Int), .int .u32 (e.s : Int), .int .i64 e.p, .int .i64 e.t, .slice q m d], .agg #[.int .u8 (f.k.toNat : Int), .int .u32 (f.s : Int), .int .i64 f.p, .int .i64 f.t, .slice q' m' d']] w fun r w' => r = .returned (.bool true) ∧ Below w.heap.size w w' := by
  have hu := e.k.toNat_lt
  have HSG := Lib.hid (fun w' => script_good e.k.toNat e.s e.p e.t q m d (by omega) w')
  have HRG := Lib.hid (fun w' (hg : w.grownBy w' none) => ref_goodE e.k.toNat e.s e.p e.t q m d e.b (by omega) w' (hb.grown hg).rb hb.len)
  have HS1 := Lib.hid (fun w' (hg : w.grownBy w' none) => script_same e.k.toNat e.s e.p e.t q m d e.b f.k.toNat f.s f.p f.t q' m' d' f.b w' (hb.grown hg).rb hb.len (hb'.grown hg).rb hb'.len)
  have HR1 := Lib.hid (fun w' (hg : w.grownBy w' none) => ref_same e.k.toNat e.s e.p e.t q m d e.b f.k.toNat f.s f.p f.t q' m' d' f.b w' (hb.grown hg).rb hb.len (hb'.grown hg).rb hb'.len)
  have HS2 := Lib.hid (fun w' (hg : w.grownBy w' none) => script_same e.k.toNat e.s e.p e.t q m d e.b e.k.toNat e.s e.p e.t q m d e.b w' (hb.grown hg).rb hb.len (hb.grown hg).rb hb.len)
  simp only [sameE_self] at HS2
  obtain ⟨gd, hgd⟩ : ∃ b, goodE e.k.toNat e.s e.p e.t m = b := ⟨_, rfl⟩
  obtain ⟨sm, hsm⟩ : ∃ b, sameE e.k.toNat e.s e.p e.t e.b f.k.toNat f.s f.p f.t f.b = b := ⟨_, rfl⟩
  rw [hgd] at HSG HRG
  rw [hsm] at HS1 HR1
  obtain ⟨OE, hOE⟩ : ∃ o, Obj.cells #[.int .u8 (e.k.toNat : Int), .int .u32 (e.s : Int), .int .i64 e.p, .int .i64 e.t, .slice q m d] 52 = o := ⟨_, rfl⟩
  have hB := Box.new ((w.alloc (.cells #[.int .u8 (e.k.toNat : Int), .int .u32 (e.s : Int), .int .i64 e.p, .int .i64 e.t, .slice q m d] 52)).alloc (.cells #[.int .u8 (f.k.toNat : Int), .int .u32 (f.s : Int), .int .i64 f.p, .int .i64 f.t, .slice q' m' d'] 52)) 52
    [.int .u8 (e.k.toNat : Int), .int .u32 (e.s : Int), .int .i64 e.p, .int .i64 e.t, .slice q m d, .int .u8 (f.k.toNat : Int), .int .u32 (f.s : Int), .int .i64 f.p, .int .i64 f.t, .slice q' m' d'] (w.heap.size + 1 + 1) (by simp)
  have hE0 := ((Box.new w 52 [.int .u8 (e.k.toNat : Int), .int .u32 (e.s : Int), .int .i64 e.p, .int .i64 e.t, .slice q m d] w.heap.size rfl).alloc (.cells #[.int .u8 (f.k.toNat : Int), .int .u32 (f.s : Int), .int .i64 f.p, .int .i64 f.t, .slice q' m' d'] 52)).alloc (.cells #[.int .u8 (e.k.toNat : Int), .int .u32 (e.s : Int), .int .i64 e.p, .int .i64 e.t, .slice q m d, .int .u8 (f.k.toNat : Int), .int .u32 (f.s : Int), .int .i64 f.p, .int .i64 f.t, .slice q' m' d'] 52)
  have hF0 := (Box.new (w.alloc (.cells #[.int .u8 (e.k.toNat : Int), .int .u32 (e.s : Int), .int .i64 e.p, .int .i64 e.t, .slice q m d] 52)) 52 [.int .u8 (f.k.toNat : Int), .int .u32 (f.s : Int), .int .i64 f.p, .int .i64 f.t, .slice q' m' d'] (w.heap.size + 1) (by simp)).alloc (.cells #[.int .u8 (e.k.toNat : Int), .int .u32 (e.s : Int), .int .i64 e.p, .int .i64 e.t, .slice q m d, .int .u8 (f.k.toNat : Int), .int .u32 (f.s : Int), .int .i64 f.p, .int .i64 f.t, .slice q' m' d'] 52)
  have hgw := growA3 w (.cells #[.int .u8 (e.k.toNat : Int), .int .u32 (e.s : Int), .int .i64 e.p, .int .i64 e.t, .slice q m d] 52) (.cells #[.int .u8 (f.k.toNat : Int), .int .u32 (f.s : Int), .int .i64 f.p, .int .i64 f.t, .slice q' m' d'] 52) (.cells #[.int .u8 (e.k.toNat : Int), .int .u32 (e.s : Int), .int .i64 e.p, .int .i64 e.t, .slice q m d, .int .u8 (f.k.toNat : Int), .int .u32 (f.s : Int), .int .i64 f.p, .int .i64 f.t, .slice q' m' d'] 52)
  have hEL := ev_two hB (hb.grown hgw) (hb'.grown hgw)
  have HF := Lib.hid (few_events (some ⟨w.heap.size + 1 + 1, 0, none⟩) 2 2 [e, f] _ hEL rfl (by simp [maxLen]))
  have HE0 := Lib.hid hE0; have HF0 := Lib.hid hF0; have HGW := Lib.hid hgw
  clear hb hb' hu hgd hsm hB hE0 hF0 hgw hEL hOE OE
  go_enter Try.func8, Try.ntmps8
  go_wp2_with fail
  refine HF.out.mono ?_
  rintro r w1 ⟨fw, rfl, hg1, _⟩
  have HG1 := Lib.hid (grown_trans HGW.out hg1)
  have hE1 := look_later (HE0.out.grown hg1)
  have hF1 := look_later (HF0.out.grown hg1)
  clear hg1
  cases fw
  · go_wp2_with fail
    refine (script_works _).mono ?_
    rintro r w2 ⟨rfl, hg2⟩
    have HG2 := Lib.hid (grown_trans HG1.out hg2)
    clear hg2
    go_wp2_with fail
    go_ret
    exact ⟨rfl, grown_below HG2.out⟩
  · have hS0 : w1.grownBy w1.drew none := grown_drew1 _
    have hS1 : w1.grownBy w1 none := World.grownBy.refl _ _
    go_wp2_with fail
    go_region_held_law (fun w' => w1.grownBy w' none) (with_reducible (first | assumption | exact keepA' (by assumption))) (first
      | (go_at_call 24; (with_reducible refine (HSG.out _).mono ?_); rintro r w2 ⟨rfl, hg⟩; have hSa := growT hg (by with_reducible assumption))
      | (go_at_call 25; (with_reducible refine (HRG.out _ (growT (by assumption : w1.grownBy _ none) HG1.out)).mono ?_); rintro r w2 ⟨rfl, hg⟩; have hSa := growT hg (by with_reducible assumption))
      | (go_at_call 28; (with_reducible refine (HS1.out _ (growT (by assumption : w1.grownBy _ none) HG1.out)).mono ?_); rintro r w2 ⟨rfl, hg⟩; have hSa := growT hg (by with_reducible assumption))
      | (go_at_call 28; (with_reducible refine (HS2.out _ (growT (by assumption : w1.grownBy _ none) HG1.out)).mono ?_); rintro r w2 ⟨rfl, hg⟩; have hSa := growT hg (by with_reducible assumption))
      | (go_at_call 29; (with_reducible refine (HR1.out _ (growT (by assumption : w1.grownBy _ none) HG1.out)).mono ?_); rintro r w2 ⟨rfl, hg⟩; have hSa := growT hg (by with_reducible assumption))
      | (go_at_call 18; (with_reducible refine (script_works _).mono ?_); rintro r w2 ⟨rfl, hg⟩; have hSa := growT hg (by with_reducible assumption)))
    all_goals (
      go_wp2_with fail
      go_ret
      exact ⟨rfl, grown_below (grown_trans HG1.out (by with_reducible assumption))⟩)

end Go.Proofs.Ytomnhgcjdnhijaa
