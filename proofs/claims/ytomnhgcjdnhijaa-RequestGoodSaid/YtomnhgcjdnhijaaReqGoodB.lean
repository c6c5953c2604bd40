/-
  Whether a request may be asked of a configuration.
-/
import Derived.Test.YtomnhgcjdnhijaaReqGood
import Derived.Test.YtomnhgcjdnhijaaCConfig
namespace Go.Proofs.Ytomnhgcjdnhijaa
open Go.RowKit
set_option maxRecDepth 100000

theorem plainF_facts {k o p : Int} {n : Nat} {s f t q : Int} (h : plainF k o p n s f t q = true) : 1 ≤ k ∧ k ≤ 7 ∧ n ≤ 3 := by
  unfold plainF at h
  simp only [Bool.and_eq_true, decide_eq_true_eq] at h
  omega
theorem two_boxesG (w : World) (o1 o2 : Obj) : w.grownBy ((w.alloc o1).alloc o2) none := grown_trans (World.grownBy_alloc w o1 none) (World.grownBy_alloc _ o2 none)
set_option maxHeartbeats 3200000 in
theorem req_good (C : ConfP) (ca : Option Addr) (cn ck : Nat) (k o p : Int) (a : Option Addr) (n c : Nat) (L : List LineP) (s f t q : Int) (w : World) (hk : 0 ≤ k ∧ k ≤ 255) (hs : 0 ≤ s ∧ s ≤ 255) (hf : 0 ≤ f ∧ f ≤ 255) (ht : 0 ≤ t ∧ t ≤ 255) (hL : LineList w a L) (hn : L.length = n) (hm : n ≤ maxLen) :
    Calls Try.prog 31 #[.agg #[.int .i64 C.sk, .int .i64 C.wa, .slice ca cn ck, .int .u8 ((C.p 0 0).toNat : Int), .int .u8 ((C.p 0 1).toNat : Int), .int .u8 ((C.p 0 2).toNat : Int), .int .u8 ((C.p 0 3).toNat : Int), .int .u8 ((C.p 1 0).toNat : Int), .int .u8 ((C.p 1 1).toNat : Int), .int .u8 ((C.p 1 2).toNat : Int), .int .u8 ((C.p 1 3).toNat : Int), .int .u8 ((C.p 2 0).toNat : Int), .int .u8 ((C.p 2 1).toNat : Int), .int .u8 ((C.p 2 2).toNat : Int), .int .u8 ((C.p 2 3).toNat : Int), .int .u8 ((C.p 3 0).toNat : Int), .int .u8 ((C.p 3 1).toNat : Int), .int .u8 ((C.p 3 2).toNat : Int), .int .u8 ((C.p 3 3).toNat : Int), .int .i64 C.sg, .int .i64 C.od, .int .i64 C.rt, .int .i64 C.se, .int .i64 C.ca, .int .i64 C.bl, .int .i64 C.bs], .agg #[.int .u8 k, .int .u32 o, .int .u8 p, .slice a n c, .int .u8 s, .int .u8 f, .int .u8 t, .int .i64 q]] w fun r w' => r = .returned (.bool (goodG C.sk C.wa k o p n (plainF k o p n s f t q) (linesOk C.sk L) s f t q)) ∧ w.grownBy w' none := by
  have hg := two_boxesG w (.cells #[.int .i64 C.sk, .int .i64 C.wa, .slice ca cn ck, .int .u8 ((C.p 0 0).toNat : Int), .int .u8 ((C.p 0 1).toNat : Int), .int .u8 ((C.p 0 2).toNat : Int), .int .u8 ((C.p 0 3).toNat : Int), .int .u8 ((C.p 1 0).toNat : Int), .int .u8 ((C.p 1 1).toNat : Int), .int .u8 ((C.p 1 2).toNat : Int), .int .u8 ((C.p 1 3).toNat : Int), .int .u8 ((C.p 2 0).toNat : Int), .int .u8 ((C.p 2 1).toNat : Int), .int .u8 ((C.p 2 2).toNat : Int), .int .u8 ((C.p 2 3).toNat : Int), .int .u8 ((C.p 3 0).toNat : Int), .int .u8 ((C.p 3 1).toNat : Int), .int .u8 ((C.p 3 2).toNat : Int), .int .u8 ((C.p 3 3).toNat : Int), .int .i64 C.sg, .int .i64 C.od, .int .i64 C.rt, .int .i64 C.se, .int .i64 C.ca, .int .i64 C.bl, .int .i64 C.bs] 62) (.cells #[.int .u8 k, .int .u32 o, .int .u8 p, .slice a n c, .int .u8 s, .int .u8 f, .int .u8 t, .int .i64 q] 25)
  have hbC := (Box.new w 62 [.int .i64 C.sk, .int .i64 C.wa, .slice ca cn ck, .int .u8 ((C.p 0 0).toNat : Int), .int .u8 ((C.p 0 1).toNat : Int), .int .u8 ((C.p 0 2).toNat : Int), .int .u8 ((C.p 0 3).toNat : Int), .int .u8 ((C.p 1 0).toNat : Int), .int .u8 ((C.p 1 1).toNat : Int), .int .u8 ((C.p 1 2).toNat : Int), .int .u8 ((C.p 1 3).toNat : Int), .int .u8 ((C.p 2 0).toNat : Int), .int .u8 ((C.p 2 1).toNat : Int), .int .u8 ((C.p 2 2).toNat : Int), .int .u8 ((C.p 2 3).toNat : Int), .int .u8 ((C.p 3 0).toNat : Int), .int .u8 ((C.p 3 1).toNat : Int), .int .u8 ((C.p 3 2).toNat : Int), .int .u8 ((C.p 3 3).toNat : Int), .int .i64 C.sg, .int .i64 C.od, .int .i64 C.rt, .int .i64 C.se, .int .i64 C.ca, .int .i64 C.bl, .int .i64 C.bs] w.heap.size rfl).alloc (.cells #[.int .u8 k, .int .u32 o, .int .u8 p, .slice a n c, .int .u8 s, .int .u8 f, .int .u8 t, .int .i64 q] 25)
  have hbR := Box.new (w.alloc (.cells #[.int .i64 C.sk, .int .i64 C.wa, .slice ca cn ck, .int .u8 ((C.p 0 0).toNat : Int), .int .u8 ((C.p 0 1).toNat : Int), .int .u8 ((C.p 0 2).toNat : Int), .int .u8 ((C.p 0 3).toNat : Int), .int .u8 ((C.p 1 0).toNat : Int), .int .u8 ((C.p 1 1).toNat : Int), .int .u8 ((C.p 1 2).toNat : Int), .int .u8 ((C.p 1 3).toNat : Int), .int .u8 ((C.p 2 0).toNat : Int), .int .u8 ((C.p 2 1).toNat : Int), .int .u8 ((C.p 2 2).toNat : Int), .int .u8 ((C.p 2 3).toNat : Int), .int .u8 ((C.p 3 0).toNat : Int), .int .u8 ((C.p 3 1).toNat : Int), .int .u8 ((C.p 3 2).toNat : Int), .int .u8 ((C.p 3 3).toNat : Int), .int .i64 C.sg, .int .i64 C.od, .int .i64 C.rt, .int .i64 C.se, .int .i64 C.ca, .int .i64 C.bl, .int .i64 C.bs] 62)) 25 [.int .u8 k, .int .u32 o, .int .u8 p, .slice a n c, .int .u8 s, .int .u8 f, .int .u8 t, .int .i64 q] (w.heap.size + 1) (by simp)
  obtain ⟨sk, hsk⟩ : ∃ sk, C.sk = sk := ⟨_, rfl⟩
  obtain ⟨wa, hwa⟩ : ∃ wa, C.wa = wa := ⟨_, rfl⟩
  rw [hsk, hwa] at hg hbC hbR ⊢
  obtain ⟨lb, hlb⟩ : ∃ lb, linesOk sk L = lb := ⟨_, rfl⟩
  obtain ⟨pb, hpb⟩ : ∃ pb, plainF k o p n s f t q = pb := ⟨_, rfl⟩
  have HPF := Lib.hid (fun h : pb = true => plainF_facts (hpb.trans h))
  have HPB := Lib.hid (fun _ : True => hpb)
  have HP := Lib.hid (fun u => req_plain k o p a n c s f t q u)
  rw [hpb] at HP ⊢
  have HL := Lib.hid (fun u (hu : w.grownBy u none) => req_lines sk a n c L u (hL.grown hu) hn hm)
  rw [hlb] at HL ⊢
  have HG := Lib.hid hg
  have HC := Lib.hid (fun (u : World) hu => (hbC.grown (w' := u) hu).cell 0 rfl)
  have HC1 := Lib.hid (fun (u : World) hu => (hbC.grown (w' := u) hu).cell 1 rfl)
  have HR := Lib.hid (fun (u : World) hu => (hbR.grown (w' := u) hu).look)
  have l2 := hbR.look
  have ws : IntKind.i64.wrap s = s := by rw [IntKind.wrap_i64]; omega
  have wf : IntKind.i64.wrap f = f := by rw [IntKind.wrap_i64]; omega
  have wt : IntKind.i64.wrap t = t := by rw [IntKind.wrap_i64]; omega
  obtain ⟨k0, k1⟩ := hk
  clear hL hn hm hbC hbR hlb hpb hsk hwa hg hs hf ht
  go_enter Try.func31, Try.ntmps31
  go_wp2_with fail
  refine (HP.out _).mono ?_
  rintro e w1 ⟨rfl, hg1⟩
  have c0 := HC.out w1 hg1
  have c1 := HC1.out w1 hg1
  have l3 := HR.out w1 hg1
  have HG1 := Lib.hid (grown_trans HG.out hg1)
  clear hg1 l2
  cases pb
  · go_wp2_with fail
    go_ret
    refine ⟨ret_bool ?_, HG1.out⟩
    rfl
  · obtain ⟨p1, p7, p3⟩ := HPF.out rfl
    go_wp2_with (first
      | (go_at_call 35; (with_reducible refine (req_ordered _ _).mono ?_); rintro e w2 ⟨rfl, rfl⟩)
      | (go_at_call 38; (with_reducible refine (req_moved _ _).mono ?_); rintro e w2 ⟨rfl, rfl⟩)
      | (go_at_call 61; refine (HL.out _ HG1.out).mono ?_; rintro e w2 ⟨rfl, hg2⟩))
    all_goals (
      go_ret
      refine ⟨ret_bool ?_, ?_⟩
      · unfold goodG
        clear HPB HPF HP HL HG HC HC1 HR HG1 c0 c1 l3 ws wf wt
        try clear hg2
        first
          | (simp_all [orderedF, movedF]; done)
          | (simp_all [orderedF, movedF]; omega)
          | (have h4 : ¬ k ≤ 4 := (by first | (simp_all [orderedF]; done) | (simp_all [orderedF]; omega))
             rw [if_neg h4]
             symm
             rw [Bool.eq_false_iff]
             intro hx
             simp only [Bool.true_and, Bool.and_eq_true, Bool.or_eq_true, decide_eq_true_eq, Bool.not_eq_true'] at hx
             obtain ⟨⟨a1, a2⟩, _⟩ := hx
             rcases a2 with a2 | a2
             · first
               | omega
               | (have hm := ‹movedF k = true›; rw [a2] at hm; cases hm)
             · omega)
      · first
        | exact HG1.out
        | exact grown_trans HG1.out (by assumption))
set_option maxHeartbeats 3200000 in
theorem ref_goodQ (C : ConfP) (ca : Option Addr) (cn ck : Nat) (k o p : Int) (a : Option Addr) (n c : Nat) (L : List LineP) (s f t q : Int) (w : World) (hk : 0 ≤ k ∧ k ≤ 255) (hs : 0 ≤ s ∧ s ≤ 255) (hf : 0 ≤ f ∧ f ≤ 255) (ht : 0 ≤ t ∧ t ≤ 255) (hL : LineList w a L) (hn : L.length = n) (hm : n ≤ maxLen) :
    Calls Try.prog 32 #[.agg #[.int .i64 C.sk, .int .i64 C.wa, .slice ca cn ck, .int .u8 ((C.p 0 0).toNat : Int), .int .u8 ((C.p 0 1).toNat : Int), .int .u8 ((C.p 0 2).toNat : Int), .int .u8 ((C.p 0 3).toNat : Int), .int .u8 ((C.p 1 0).toNat : Int), .int .u8 ((C.p 1 1).toNat : Int), .int .u8 ((C.p 1 2).toNat : Int), .int .u8 ((C.p 1 3).toNat : Int), .int .u8 ((C.p 2 0).toNat : Int), .int .u8 ((C.p 2 1).toNat : Int), .int .u8 ((C.p 2 2).toNat : Int), .int .u8 ((C.p 2 3).toNat : Int), .int .u8 ((C.p 3 0).toNat : Int), .int .u8 ((C.p 3 1).toNat : Int), .int .u8 ((C.p 3 2).toNat : Int), .int .u8 ((C.p 3 3).toNat : Int), .int .i64 C.sg, .int .i64 C.od, .int .i64 C.rt, .int .i64 C.se, .int .i64 C.ca, .int .i64 C.bl, .int .i64 C.bs], .agg #[.int .u8 k, .int .u32 o, .int .u8 p, .slice a n c, .int .u8 s, .int .u8 f, .int .u8 t, .int .i64 q]] w fun r w' => r = .returned (.bool (goodG C.sk C.wa k o p n (plainF k o p n s f t q) (linesOk C.sk L) s f t q)) ∧ w.grownBy w' none := by
  have hg := two_boxesG w (.cells #[.int .i64 C.sk, .int .i64 C.wa, .slice ca cn ck, .int .u8 ((C.p 0 0).toNat : Int), .int .u8 ((C.p 0 1).toNat : Int), .int .u8 ((C.p 0 2).toNat : Int), .int .u8 ((C.p 0 3).toNat : Int), .int .u8 ((C.p 1 0).toNat : Int), .int .u8 ((C.p 1 1).toNat : Int), .int .u8 ((C.p 1 2).toNat : Int), .int .u8 ((C.p 1 3).toNat : Int), .int .u8 ((C.p 2 0).toNat : Int), .int .u8 ((C.p 2 1).toNat : Int), .int .u8 ((C.p 2 2).toNat : Int), .int .u8 ((C.p 2 3).toNat : Int), .int .u8 ((C.p 3 0).toNat : Int), .int .u8 ((C.p 3 1).toNat : Int), .int .u8 ((C.p 3 2).toNat : Int), .int .u8 ((C.p 3 3).toNat : Int), .int .i64 C.sg, .int .i64 C.od, .int .i64 C.rt, .int .i64 C.se, .int .i64 C.ca, .int .i64 C.bl, .int .i64 C.bs] 62) (.cells #[.int .u8 k, .int .u32 o, .int .u8 p, .slice a n c, .int .u8 s, .int .u8 f, .int .u8 t, .int .i64 q] 25)
  have hbC := (Box.new w 62 [.int .i64 C.sk, .int .i64 C.wa, .slice ca cn ck, .int .u8 ((C.p 0 0).toNat : Int), .int .u8 ((C.p 0 1).toNat : Int), .int .u8 ((C.p 0 2).toNat : Int), .int .u8 ((C.p 0 3).toNat : Int), .int .u8 ((C.p 1 0).toNat : Int), .int .u8 ((C.p 1 1).toNat : Int), .int .u8 ((C.p 1 2).toNat : Int), .int .u8 ((C.p 1 3).toNat : Int), .int .u8 ((C.p 2 0).toNat : Int), .int .u8 ((C.p 2 1).toNat : Int), .int .u8 ((C.p 2 2).toNat : Int), .int .u8 ((C.p 2 3).toNat : Int), .int .u8 ((C.p 3 0).toNat : Int), .int .u8 ((C.p 3 1).toNat : Int), .int .u8 ((C.p 3 2).toNat : Int), .int .u8 ((C.p 3 3).toNat : Int), .int .i64 C.sg, .int .i64 C.od, .int .i64 C.rt, .int .i64 C.se, .int .i64 C.ca, .int .i64 C.bl, .int .i64 C.bs] w.heap.size rfl).alloc (.cells #[.int .u8 k, .int .u32 o, .int .u8 p, .slice a n c, .int .u8 s, .int .u8 f, .int .u8 t, .int .i64 q] 25)
  have hbR := Box.new (w.alloc (.cells #[.int .i64 C.sk, .int .i64 C.wa, .slice ca cn ck, .int .u8 ((C.p 0 0).toNat : Int), .int .u8 ((C.p 0 1).toNat : Int), .int .u8 ((C.p 0 2).toNat : Int), .int .u8 ((C.p 0 3).toNat : Int), .int .u8 ((C.p 1 0).toNat : Int), .int .u8 ((C.p 1 1).toNat : Int), .int .u8 ((C.p 1 2).toNat : Int), .int .u8 ((C.p 1 3).toNat : Int), .int .u8 ((C.p 2 0).toNat : Int), .int .u8 ((C.p 2 1).toNat : Int), .int .u8 ((C.p 2 2).toNat : Int), .int .u8 ((C.p 2 3).toNat : Int), .int .u8 ((C.p 3 0).toNat : Int), .int .u8 ((C.p 3 1).toNat : Int), .int .u8 ((C.p 3 2).toNat : Int), .int .u8 ((C.p 3 3).toNat : Int), .int .i64 C.sg, .int .i64 C.od, .int .i64 C.rt, .int .i64 C.se, .int .i64 C.ca, .int .i64 C.bl, .int .i64 C.bs] 62)) 25 [.int .u8 k, .int .u32 o, .int .u8 p, .slice a n c, .int .u8 s, .int .u8 f, .int .u8 t, .int .i64 q] (w.heap.size + 1) (by simp)
  obtain ⟨sk, hsk⟩ : ∃ sk, C.sk = sk := ⟨_, rfl⟩
  obtain ⟨wa, hwa⟩ : ∃ wa, C.wa = wa := ⟨_, rfl⟩
  rw [hsk, hwa] at hg hbC hbR ⊢
  obtain ⟨lb, hlb⟩ : ∃ lb, linesOk sk L = lb := ⟨_, rfl⟩
  obtain ⟨pb, hpb⟩ : ∃ pb, plainF k o p n s f t q = pb := ⟨_, rfl⟩
  have HPF := Lib.hid (fun h : pb = true => plainF_facts (hpb.trans h))
  have HP := Lib.hid (fun u (hu : w.grownBy u none) => ref_plainQ k o p a n c L s f t q u hk (hL.grown hu) hn hm)
  rw [hpb] at HP ⊢
  have HL := Lib.hid (fun u (hu : w.grownBy u none) => ref_lines sk a n c L u (hL.grown hu) hn hm)
  rw [hlb] at HL ⊢
  have HG := Lib.hid hg
  have HC := Lib.hid (fun (u : World) hu => (hbC.grown (w' := u) hu).cell 0 rfl)
  have HC1 := Lib.hid (fun (u : World) hu => (hbC.grown (w' := u) hu).cell 1 rfl)
  have HR := Lib.hid (fun (u : World) hu => (hbR.grown (w' := u) hu).look)
  have l2 := hbR.look
  have ws : IntKind.i64.wrap s = s := by rw [IntKind.wrap_i64]; omega
  have wf : IntKind.i64.wrap f = f := by rw [IntKind.wrap_i64]; omega
  have wt : IntKind.i64.wrap t = t := by rw [IntKind.wrap_i64]; omega
  obtain ⟨k0, k1⟩ := hk
  clear hL hn hm hbC hbR hlb hpb hsk hwa hg hs hf ht
  go_enter Try.func32, Try.ntmps32
  go_wp2_with fail
  refine (HP.out _ HG.out).mono ?_
  rintro e w1 ⟨rfl, hg1⟩
  have c0 := HC.out w1 hg1
  have c1 := HC1.out w1 hg1
  have l3 := HR.out w1 hg1
  have HG1 := Lib.hid (grown_trans HG.out hg1)
  clear hg1 l2
  cases pb
  · go_wp2_with fail
    go_ret
    refine ⟨ret_bool ?_, HG1.out⟩
    rfl
  · obtain ⟨p1, p7, p3⟩ := HPF.out rfl
    go_wp2_with (first
      | (go_at_call 62; refine (HL.out _ HG1.out).mono ?_; rintro e w2 ⟨rfl, hg2⟩))
    all_goals (
      go_ret
      refine ⟨ret_bool ?_, ?_⟩
      · unfold goodG
        clear HPF HP HL HG HC HC1 HR HG1 c0 c1 l3 ws wf wt
        try clear hg2
        first
          | (simp_all [movedF]; done)
          | (simp_all [movedF]; omega)
          | (have e1 : (f != t) = true := (by simpa using ‹¬ f = t›)
             have e2 : k = 6 := (by first | omega | (simp_all; done) | (simp_all; omega))
             rw [e1, e2, if_neg (by decide), decide_eq_true ‹s < sk›, decide_eq_true ‹t < wa›, decide_eq_true ‹f < wa›]
             simp [movedF])
          | (have e2 : k = 7 := (by
               have a1 := ‹(k == 6) = false›
               have a2 := ‹(k == 5) = false›
               have a3 := ‹(k == 4) = false›
               have a4 := ‹(k == 3) = false›
               have a5 := ‹(k == 2) = false›
               have a6 := ‹(k == 1) = false›
               rw [beq_eq_false_iff_ne] at a1 a2 a3 a4 a5 a6
               omega)
             rw [e2, if_neg (by decide)]
             simp [movedF])
          | (trace_state; fail)
      · first
        | exact HG1.out
        | exact grown_trans HG1.out (by assumption))

end Go.Proofs.Ytomnhgcjdnhijaa
