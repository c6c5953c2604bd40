/-
  Whether a configuration may be, by the document.
-/
import Derived.Test.YtfmcbnoldcfcbaaCCheck
namespace Go.Proofs.Ytfmcbnoldcfcbaa
open Go.RowKit
set_option maxRecDepth 100000

/-- is q named among the first r of a row? -/
def hasUp (p : Nat → UInt8) (r q : Nat) : Bool := (List.range r).any fun j => decide ((p j).toNat = q)
theorem hasUp_succ (p : Nat → UInt8) (r q : Nat) : hasUp p (r + 1) q = (hasUp p r q || decide ((p r).toNat = q)) := by
  unfold hasUp
  rw [List.range_succ, List.any_append]
  simp
theorem gotF_has (p : Nat → UInt8) (v : Nat) (i : Nat) (hi : i < v) : ∀ n, gotF p v n i = hasUp p n i := by
  intro n
  induction n with
  | zero => rfl
  | succ n ih =>
    rw [hasUp_succ, ← ih]
    show (gotF p v n i || _) = _
    congr 1
    by_cases h : (p n).toNat = i
    · rw [decide_eq_true h, decide_eq_true (by omega), decide_eq_true h.symm]; rfl
    · rw [decide_eq_false h, decide_eq_false (p := i = (p n).toNat) (fun e => h e.symm), Bool.and_false]
theorem gotF_out (p : Nat → UInt8) (v : Nat) (i : Nat) (hi : ¬ i < v) : ∀ n, gotF p v n i = false := by
  intro n
  induction n with
  | zero => rfl
  | succ n ih =>
    show (gotF p v n i || _) = _
    rw [ih, Bool.false_or]
    by_cases h : i = (p n).toNat
    · rw [decide_eq_false (by omega), Bool.false_and]
    · rw [decide_eq_false h, Bool.and_false]
theorem named_has (p : Nat → UInt8) {v : Nat} (_hv : v ≤ 4) (h : ∀ q < v, hasUp p v q = true) : namedF p v = true := by
  have g : ∀ i, gotF p v v i = decide (i < v) := fun i => by
    by_cases hi : i < v
    · rw [gotF_has p v i hi, h i hi, decide_eq_true hi]
    · rw [gotF_out p v i hi, decide_eq_false hi]
  unfold namedF
  rw [g, g, g, g]
  simp
theorem named_hasnt (p : Nat → UInt8) {v q : Nat} (hv : v ≤ 4) (hq : q < v) (h : hasUp p v q = false) : namedF p v = false := by
  have g : (gotF p v v q == decide (q < v)) = false := by rw [gotF_has p v q hq, h, decide_eq_true hq]; rfl
  unfold namedF
  have : q = 0 ∨ q = 1 ∨ q = 2 ∨ q = 3 := by omega
  rcases this with rfl | rfl | rfl | rfl <;> rw [g] <;> simp
def RC1 (w1 : World) (n : Nat) (L : List DeclP) (F : List KeyP) (i : Value) (wr : World) : Prop := ∃ j : Nat, j ≤ n ∧ i = .int .i64 j ∧ (L.map (·.k)).take j = F.take j ∧ w1.grownBy wr none
def RC2 (w1 : World) (n : Nat) (L : List DeclP) (i : Value) (wr : World) : Prop := ∃ j : Nat, j ≤ n ∧ i = .int .i64 j ∧ (∀ d ∈ L.take j, outB d = false) ∧ w1.grownBy wr none
def RC4 (w1 : World) (p : Nat → UInt8) (v : Nat) (i : Value) (wr : World) : Prop := ∃ q : Nat, q ≤ v ∧ i = .int .i64 q ∧ (∀ x < q, hasUp p v x = true) ∧ w1.grownBy wr none
def RC5 (w1 : World) (p : Nat → UInt8) (v q : Nat) (acc i : Value) (wr : World) : Prop := ∃ r : Nat, r ≤ v ∧ i = .int .i64 r ∧ acc = .bool (hasUp p r q) ∧ w1.grownBy wr none
set_option maxHeartbeats 12800000 in
theorem ref_check (c : ConfP) (a : Option Addr) (n k : Nat) (w : World) (hL : DeclList w a c.D) (hn : c.D.length = n) (hm : n ≤ maxLen) (hbl : i64 c.bl) :
    Calls Try.prog 28 #[.agg #[.int .i64 c.sk, .int .i64 c.wa, .slice a n k, .int .u8 ((c.p 0 0).toNat : Int), .int .u8 ((c.p 0 1).toNat : Int), .int .u8 ((c.p 0 2).toNat : Int), .int .u8 ((c.p 0 3).toNat : Int), .int .u8 ((c.p 1 0).toNat : Int), .int .u8 ((c.p 1 1).toNat : Int), .int .u8 ((c.p 1 2).toNat : Int), .int .u8 ((c.p 1 3).toNat : Int), .int .u8 ((c.p 2 0).toNat : Int), .int .u8 ((c.p 2 1).toNat : Int), .int .u8 ((c.p 2 2).toNat : Int), .int .u8 ((c.p 2 3).toNat : Int), .int .u8 ((c.p 3 0).toNat : Int), .int .u8 ((c.p 3 1).toNat : Int), .int .u8 ((c.p 3 2).toNat : Int), .int .u8 ((c.p 3 3).toNat : Int), .int .i64 c.sg, .int .i64 c.od, .int .i64 c.rt, .int .i64 c.se, .int .i64 c.ca, .int .i64 c.bl, .int .i64 c.bs]] w fun r w' => r = .returned (.int .i64 (checkF c)) ∧ w.grownBy w' none := by
  have hmx : n ≤ 9223372036854775807 := hm
  have hbx := Box.new w 49 [.int .i64 c.sk, .int .i64 c.wa, .slice a n k, .int .u8 ((c.p 0 0).toNat : Int), .int .u8 ((c.p 0 1).toNat : Int), .int .u8 ((c.p 0 2).toNat : Int), .int .u8 ((c.p 0 3).toNat : Int), .int .u8 ((c.p 1 0).toNat : Int), .int .u8 ((c.p 1 1).toNat : Int), .int .u8 ((c.p 1 2).toNat : Int), .int .u8 ((c.p 1 3).toNat : Int), .int .u8 ((c.p 2 0).toNat : Int), .int .u8 ((c.p 2 1).toNat : Int), .int .u8 ((c.p 2 2).toNat : Int), .int .u8 ((c.p 2 3).toNat : Int), .int .u8 ((c.p 3 0).toNat : Int), .int .u8 ((c.p 3 1).toNat : Int), .int .u8 ((c.p 3 2).toNat : Int), .int .u8 ((c.p 3 3).toNat : Int), .int .i64 c.sg, .int .i64 c.od, .int .i64 c.rt, .int .i64 c.se, .int .i64 c.ca, .int .i64 c.bl, .int .i64 c.bs] w.heap.size rfl
  have HG := Lib.hid (World.grownBy_alloc w (.cells #[.int .i64 c.sk, .int .i64 c.wa, .slice a n k, .int .u8 ((c.p 0 0).toNat : Int), .int .u8 ((c.p 0 1).toNat : Int), .int .u8 ((c.p 0 2).toNat : Int), .int .u8 ((c.p 0 3).toNat : Int), .int .u8 ((c.p 1 0).toNat : Int), .int .u8 ((c.p 1 1).toNat : Int), .int .u8 ((c.p 1 2).toNat : Int), .int .u8 ((c.p 1 3).toNat : Int), .int .u8 ((c.p 2 0).toNat : Int), .int .u8 ((c.p 2 1).toNat : Int), .int .u8 ((c.p 2 2).toNat : Int), .int .u8 ((c.p 2 3).toNat : Int), .int .u8 ((c.p 3 0).toNat : Int), .int .u8 ((c.p 3 1).toNat : Int), .int .u8 ((c.p 3 2).toNat : Int), .int .u8 ((c.p 3 3).toNat : Int), .int .i64 c.sg, .int .i64 c.od, .int .i64 c.rt, .int .i64 c.se, .int .i64 c.ca, .int .i64 c.bl, .int .i64 c.bs] 49) none)
  have HBX := Lib.hid hbx
  have XL := hbx.look
  have HK := Lib.hid (fun u => ref_all2 c.sk c.wa u)
  have HND := Lib.hid (fun u => ref_need c a n k u hbl)
  have HL := Lib.hid hL
  obtain ⟨Z, hZ⟩ : ∃ Z, checkF c = Z := ⟨_, rfl⟩
  rw [hZ]
  have hf : ∀ b1 b2 b3 b4 b5 b6 b7 b8 b9 : Bool, btw c.sk 1 4 = b1 → btw c.wa 1 4 = b2 → btw c.sg 1 8 = b3 → btw c.od 1 32 = b4 → btw c.rt 0 4 = b5 → btw c.se 64 4096 = b6 → btw c.ca 1 1048576 = b7 → btw c.bl 64 4096 = b8 → btw c.bs 1 1024 = b9 → numbersF c = (b1 && b2 && b3 && b4 && b5 && b6 && b7 && b8 && b9) := by
    intro b1 b2 b3 b4 b5 b6 b7 b8 b9 h1 h2 h3 h4 h5 h6 h7 h8 h9
    unfold numbersF
    rw [h1, h2, h3, h4, h5, h6, h7, h8, h9]
  obtain ⟨b1, h1⟩ : ∃ b, btw c.sk 1 4 = b := ⟨_, rfl⟩
  obtain ⟨b2, h2⟩ : ∃ b, btw c.wa 1 4 = b := ⟨_, rfl⟩
  obtain ⟨b3, h3⟩ : ∃ b, btw c.sg 1 8 = b := ⟨_, rfl⟩
  obtain ⟨b4, h4⟩ : ∃ b, btw c.od 1 32 = b := ⟨_, rfl⟩
  obtain ⟨b5, h5⟩ : ∃ b, btw c.rt 0 4 = b := ⟨_, rfl⟩
  obtain ⟨b6, h6⟩ : ∃ b, btw c.se 64 4096 = b := ⟨_, rfl⟩
  obtain ⟨b7, h7⟩ : ∃ b, btw c.ca 1 1048576 = b := ⟨_, rfl⟩
  obtain ⟨b8, h8⟩ : ∃ b, btw c.bl 64 4096 = b := ⟨_, rfl⟩
  obtain ⟨b9, h9⟩ : ∃ b, btw c.bs 1 1024 = b := ⟨_, rfl⟩
  have hnu := hf _ _ _ _ _ _ _ _ _ h1 h2 h3 h4 h5 h6 h7 h8 h9
  have H1 := Lib.hid (fun u => h1 ▸ ref_off c.sk 1 4 u)
  have H2 := Lib.hid (fun u => h2 ▸ ref_off c.wa 1 4 u)
  have H3 := Lib.hid (fun u => h3 ▸ ref_off c.sg 1 8 u)
  have H4 := Lib.hid (fun u => h4 ▸ ref_off c.od 1 32 u)
  have H5 := Lib.hid (fun u => h5 ▸ ref_off c.rt 0 4 u)
  have H6 := Lib.hid (fun u => h6 ▸ ref_off c.se 64 4096 u)
  have H7 := Lib.hid (fun u => h7 ▸ ref_off c.ca 1 1048576 u)
  have H8 := Lib.hid (fun u => h8 ▸ ref_off c.bl 64 4096 u)
  have H9 := Lib.hid (fun u => h9 ▸ ref_off c.bs 1 1024 u)
  have A1 := Lib.hid (fun h : (b1 && b2 && b3 && b4 && b5 && b6 && b7 && b8 && b9) = false => show Z = 1 by rw [← hZ]; exact if_pos (hnu.trans h))
  have HNU := Lib.hid (fun h : (b1 && b2 && b3 && b4 && b5 && b6 && b7 && b8 && b9) = true => hnu.trans h)
  have HZ := Lib.hid (fun _ : True => hZ)
  have HN := Lib.hid (fun _ : True => hn)
  clear h1 h2 h3 h4 h5 h6 h7 h8 h9 hf hnu hZ hbl hbx hL hn hm
  go_enter Try.func28, Try.ntmps28
  cases b1
  · have HCF := Lib.hid (A1.out (by simp))
    clear A1 HNU
    go_wp2_with (first | (go_at_call 58; with_reducible refine (H1.out _).mono ?_; rintro r w1 ⟨rfl, rfl⟩))
    go_ret
    exact ⟨ret_i64 HCF.out.symm, HG.out⟩
  cases b2
  · have HCF := Lib.hid (A1.out (by simp))
    clear A1 HNU
    go_wp2_with (first | (go_at_call 58; with_reducible refine (H1.out _).mono ?_; rintro r w1 ⟨rfl, rfl⟩) | (go_at_call 58; with_reducible refine (H2.out _).mono ?_; rintro r w1 ⟨rfl, rfl⟩))
    go_ret
    exact ⟨ret_i64 HCF.out.symm, HG.out⟩
  cases b3
  · have HCF := Lib.hid (A1.out (by simp))
    clear A1 HNU
    go_wp2_with (first | (go_at_call 58; with_reducible refine (H1.out _).mono ?_; rintro r w1 ⟨rfl, rfl⟩) | (go_at_call 58; with_reducible refine (H2.out _).mono ?_; rintro r w1 ⟨rfl, rfl⟩) | (go_at_call 58; with_reducible refine (H3.out _).mono ?_; rintro r w1 ⟨rfl, rfl⟩))
    go_ret
    exact ⟨ret_i64 HCF.out.symm, HG.out⟩
  cases b4
  · have HCF := Lib.hid (A1.out (by simp))
    clear A1 HNU
    go_wp2_with (first | (go_at_call 58; with_reducible refine (H1.out _).mono ?_; rintro r w1 ⟨rfl, rfl⟩) | (go_at_call 58; with_reducible refine (H2.out _).mono ?_; rintro r w1 ⟨rfl, rfl⟩) | (go_at_call 58; with_reducible refine (H3.out _).mono ?_; rintro r w1 ⟨rfl, rfl⟩) | (go_at_call 58; with_reducible refine (H4.out _).mono ?_; rintro r w1 ⟨rfl, rfl⟩))
    go_ret
    exact ⟨ret_i64 HCF.out.symm, HG.out⟩
  cases b5
  · have HCF := Lib.hid (A1.out (by simp))
    clear A1 HNU
    go_wp2_with (first | (go_at_call 58; with_reducible refine (H1.out _).mono ?_; rintro r w1 ⟨rfl, rfl⟩) | (go_at_call 58; with_reducible refine (H2.out _).mono ?_; rintro r w1 ⟨rfl, rfl⟩) | (go_at_call 58; with_reducible refine (H3.out _).mono ?_; rintro r w1 ⟨rfl, rfl⟩) | (go_at_call 58; with_reducible refine (H4.out _).mono ?_; rintro r w1 ⟨rfl, rfl⟩) | (go_at_call 58; with_reducible refine (H5.out _).mono ?_; rintro r w1 ⟨rfl, rfl⟩))
    go_ret
    exact ⟨ret_i64 HCF.out.symm, HG.out⟩
  cases b6
  · have HCF := Lib.hid (A1.out (by simp))
    clear A1 HNU
    go_wp2_with (first | (go_at_call 58; with_reducible refine (H1.out _).mono ?_; rintro r w1 ⟨rfl, rfl⟩) | (go_at_call 58; with_reducible refine (H2.out _).mono ?_; rintro r w1 ⟨rfl, rfl⟩) | (go_at_call 58; with_reducible refine (H3.out _).mono ?_; rintro r w1 ⟨rfl, rfl⟩) | (go_at_call 58; with_reducible refine (H4.out _).mono ?_; rintro r w1 ⟨rfl, rfl⟩) | (go_at_call 58; with_reducible refine (H5.out _).mono ?_; rintro r w1 ⟨rfl, rfl⟩) | (go_at_call 58; with_reducible refine (H6.out _).mono ?_; rintro r w1 ⟨rfl, rfl⟩))
    go_ret
    exact ⟨ret_i64 HCF.out.symm, HG.out⟩
  cases b7
  · have HCF := Lib.hid (A1.out (by simp))
    clear A1 HNU
    go_wp2_with (first | (go_at_call 58; with_reducible refine (H1.out _).mono ?_; rintro r w1 ⟨rfl, rfl⟩) | (go_at_call 58; with_reducible refine (H2.out _).mono ?_; rintro r w1 ⟨rfl, rfl⟩) | (go_at_call 58; with_reducible refine (H3.out _).mono ?_; rintro r w1 ⟨rfl, rfl⟩) | (go_at_call 58; with_reducible refine (H4.out _).mono ?_; rintro r w1 ⟨rfl, rfl⟩) | (go_at_call 58; with_reducible refine (H5.out _).mono ?_; rintro r w1 ⟨rfl, rfl⟩) | (go_at_call 58; with_reducible refine (H6.out _).mono ?_; rintro r w1 ⟨rfl, rfl⟩) | (go_at_call 58; with_reducible refine (H7.out _).mono ?_; rintro r w1 ⟨rfl, rfl⟩))
    go_ret
    exact ⟨ret_i64 HCF.out.symm, HG.out⟩
  cases b8
  · have HCF := Lib.hid (A1.out (by simp))
    clear A1 HNU
    go_wp2_with (first | (go_at_call 58; with_reducible refine (H1.out _).mono ?_; rintro r w1 ⟨rfl, rfl⟩) | (go_at_call 58; with_reducible refine (H2.out _).mono ?_; rintro r w1 ⟨rfl, rfl⟩) | (go_at_call 58; with_reducible refine (H3.out _).mono ?_; rintro r w1 ⟨rfl, rfl⟩) | (go_at_call 58; with_reducible refine (H4.out _).mono ?_; rintro r w1 ⟨rfl, rfl⟩) | (go_at_call 58; with_reducible refine (H5.out _).mono ?_; rintro r w1 ⟨rfl, rfl⟩) | (go_at_call 58; with_reducible refine (H6.out _).mono ?_; rintro r w1 ⟨rfl, rfl⟩) | (go_at_call 58; with_reducible refine (H7.out _).mono ?_; rintro r w1 ⟨rfl, rfl⟩) | (go_at_call 58; with_reducible refine (H8.out _).mono ?_; rintro r w1 ⟨rfl, rfl⟩))
    go_ret
    exact ⟨ret_i64 HCF.out.symm, HG.out⟩
  cases b9
  · have HCF := Lib.hid (A1.out (by simp))
    clear A1 HNU
    go_wp2_with (first | (go_at_call 58; with_reducible refine (H1.out _).mono ?_; rintro r w1 ⟨rfl, rfl⟩) | (go_at_call 58; with_reducible refine (H2.out _).mono ?_; rintro r w1 ⟨rfl, rfl⟩) | (go_at_call 58; with_reducible refine (H3.out _).mono ?_; rintro r w1 ⟨rfl, rfl⟩) | (go_at_call 58; with_reducible refine (H4.out _).mono ?_; rintro r w1 ⟨rfl, rfl⟩) | (go_at_call 58; with_reducible refine (H5.out _).mono ?_; rintro r w1 ⟨rfl, rfl⟩) | (go_at_call 58; with_reducible refine (H6.out _).mono ?_; rintro r w1 ⟨rfl, rfl⟩) | (go_at_call 58; with_reducible refine (H7.out _).mono ?_; rintro r w1 ⟨rfl, rfl⟩) | (go_at_call 58; with_reducible refine (H8.out _).mono ?_; rintro r w1 ⟨rfl, rfl⟩) | (go_at_call 58; with_reducible refine (H9.out _).mono ?_; rintro r w1 ⟨rfl, rfl⟩))
    go_ret
    exact ⟨ret_i64 HCF.out.symm, HG.out⟩
  have hnu := HNU.out (by simp)
  obtain ⟨m, v, hsk, hwa, hm1, hm4, hv1, hv4⟩ := numbers_two hnu
  have A8 := Lib.hid (fun h : ¬ c.D.map (·.k) = keysF c.sk c.wa => show Z = 8 by
    rw [← HZ.out trivial]
    unfold checkF
    rw [if_neg (by rw [hnu]; simp), if_pos h])
  have A3 := Lib.hid (fun (h : c.D.map (·.k) = keysF c.sk c.wa) (h2 : c.D.any outB = true) => show Z = 3 by
    rw [← HZ.out trivial]
    unfold checkF
    rw [if_neg (by rw [hnu]; simp), if_neg (by simpa using h), if_pos h2])
  have A11 := Lib.hid (fun (h : c.D.map (·.k) = keysF c.sk c.wa) (h2 : c.D.any outB = false) (s : Nat) (hs : s < m) (h3 : namedF (c.p s) v = false) => show Z = 11 by
    have h3 : allNamed c = false := by
      unfold allNamed
      rw [hsk, hwa, Int.toNat_natCast, Int.toNat_natCast, List.all_eq_false]
      exact ⟨s, List.mem_range.2 hs, by rw [h3]; simp⟩
    rw [← HZ.out trivial]
    unfold checkF
    rw [if_neg (by rw [hnu]; simp), if_neg (by simpa using h), if_neg (by rw [h2]; simp), if_pos h3])
  have A0 := Lib.hid (fun (h : c.D.map (·.k) = keysF c.sk c.wa) (h2 : c.D.any outB = false) (h3 : ∀ s < m, namedF (c.p s) v = true) => show Z = if c.ca ≤ c.se then 5 else if c.bs < (needF c : Int) then 4 else 0 by
    have h3 : allNamed c = true := by
      unfold allNamed
      rw [hsk, hwa, Int.toNat_natCast, Int.toNat_natCast, List.all_eq_true]
      exact fun s hs => h3 s (List.mem_range.1 hs)
    rw [← HZ.out trivial]
    unfold checkF
    rw [if_neg (by rw [hnu]; simp), if_neg (by simpa using h), if_neg (by rw [h2]; simp), if_neg (by rw [h3]; simp)])
  obtain ⟨F, hF⟩ : ∃ F, keysF c.sk c.wa = F := ⟨_, rfl⟩
  rw [hF] at HK A8 A3 A11 A0
  have hF40 : F.length ≤ 40 := by rw [← hF, keysF_len]; exact countF_le _ _
  have HSK := Lib.hid (fun _ : True => hsk)
  have HWA := Lib.hid (fun _ : True => hwa)
  have HM4 := Lib.hid hm4; have HV4 := Lib.hid hv4
  clear A1 HNU HZ hnu hF hsk hwa hm1 hm4 hv1 hv4
  go_wp2_with (first | (go_at_call 58; with_reducible refine (H1.out _).mono ?_; rintro r w1 ⟨rfl, rfl⟩) | (go_at_call 58; with_reducible refine (H2.out _).mono ?_; rintro r w1 ⟨rfl, rfl⟩) | (go_at_call 58; with_reducible refine (H3.out _).mono ?_; rintro r w1 ⟨rfl, rfl⟩) | (go_at_call 58; with_reducible refine (H4.out _).mono ?_; rintro r w1 ⟨rfl, rfl⟩) | (go_at_call 58; with_reducible refine (H5.out _).mono ?_; rintro r w1 ⟨rfl, rfl⟩) | (go_at_call 58; with_reducible refine (H6.out _).mono ?_; rintro r w1 ⟨rfl, rfl⟩) | (go_at_call 58; with_reducible refine (H7.out _).mono ?_; rintro r w1 ⟨rfl, rfl⟩) | (go_at_call 58; with_reducible refine (H8.out _).mono ?_; rintro r w1 ⟨rfl, rfl⟩) | (go_at_call 58; with_reducible refine (H9.out _).mono ?_; rintro r w1 ⟨rfl, rfl⟩))
  generalize w.alloc (.cells #[.int .i64 c.sk, .int .i64 c.wa, .slice a n k, .int .u8 ((c.p 0 0).toNat : Int), .int .u8 ((c.p 0 1).toNat : Int), .int .u8 ((c.p 0 2).toNat : Int), .int .u8 ((c.p 0 3).toNat : Int), .int .u8 ((c.p 1 0).toNat : Int), .int .u8 ((c.p 1 1).toNat : Int), .int .u8 ((c.p 1 2).toNat : Int), .int .u8 ((c.p 1 3).toNat : Int), .int .u8 ((c.p 2 0).toNat : Int), .int .u8 ((c.p 2 1).toNat : Int), .int .u8 ((c.p 2 2).toNat : Int), .int .u8 ((c.p 2 3).toNat : Int), .int .u8 ((c.p 3 0).toNat : Int), .int .u8 ((c.p 3 1).toNat : Int), .int .u8 ((c.p 3 2).toNat : Int), .int .u8 ((c.p 3 3).toNat : Int), .int .i64 c.sg, .int .i64 c.od, .int .i64 c.rt, .int .i64 c.se, .int .i64 c.ca, .int .i64 c.bl, .int .i64 c.bs] 49) = w1 at *
  refine (HK.out _).mono ?_
  rintro r w2 ⟨a3, c3, rfl, ⟨hl3, hf3⟩, hg3⟩
  clear H1 H2 H3 H4 H5 H6 H7 H8 H9 XL
  have HL3 := Lib.hid hl3
  have HBX := Lib.hid (HBX.out.grown hg3)
  have HG := Lib.hid (grown_trans HG.out hg3)
  have HL := Lib.hid (HL.out.grown HG.out)
  have HSE := Lib.hid (fun wr (h : w2.grownBy wr none) => (HBX.out.grown h).cell 22 rfl)
  clear hl3 hf3 hg3 HK
  obtain ⟨f, hf⟩ : ∃ f, F.length = f := ⟨_, rfl⟩
  have c2 : w2.cell? ⟨w.heap.size, 2, none⟩ = some (.slice a n k) := HBX.out.cell 2 rfl
  by_cases hln : n = f
  case neg =>
    have HCF := Lib.hid (A8.out (fun e => hln (by rw [← hf, ← e, List.length_map, HN.out trivial])))
    clear A8 A3 A11 A0
    rw [hf]
    have hne : (((n : Int) != (f : Int)) = true) := by simp; omega
    clear hf
    go_wp2_with fail
    go_ret
    exact ⟨ret_i64 HCF.out.symm, HG.out⟩
  rw [hf] at hF40 ⊢
  have HFN := Lib.hid (fun _ : True => hf)
  clear hf
  subst hln
  go_wp2_with fail
  clear c2
  go_loopw [4] (fun i wr => RC1 w2 n c.D F i wr) (fun i _ => n - (intOf i).toNat)
  case atStart => exact ⟨0, Nat.zero_le _, rfl, rfl, World.grownBy.refl _ _⟩
  case round =>
    obtain ⟨j, hj, rfl, hrl, hg⟩ := hrel
    have HRL := Lib.hid (fun _ : True => hrl); have HGR := Lib.hid hg
    have c2 := (HBX.out.grown hg).cell 2 rfl
    clear hrl hg
    by_cases hlt : j < n
    · have hjl : j < c.D.length := by rw [HN.out trivial]; exact hlt
      have hjf : j < F.length := by rw [HFN.out trivial]; exact hlt
      obtain ⟨y, hy⟩ : ∃ y, c.D[j]'hjl = y := ⟨_, rfl⟩
      obtain ⟨z, hz⟩ : ∃ z, F[j]'hjf = z := ⟨_, rfl⟩
      obtain ⟨b, o, ea, d0, d1, d2, d3, d4, d5⟩ := (HL.out j hjl).grown HGR.out
      obtain ⟨b', o', ea', q0, q1, q2⟩ := (HL3.out j hjf).grown HGR.out
      rw [hy] at d0 d1 d2 d3 d4 d5
      rw [hz] at q0 q1 q2
      have HY := Lib.hid (fun _ : True => hy); have HZZ := Lib.hid (fun _ : True => hz)
      subst ea ea'
      have i0 : (0 : Int) ≤ (j : Int) := by omega
      have i1 : (j : Int) < (n : Int) := by omega
      clear hy hz
      by_cases hk : y.k = z
      · have HST := Lib.hid (fun _ : True => show (c.D.map (·.k)).take (j + 1) = F.take (j + 1) by
          rw [List.take_succ_eq_append_getElem (by simpa using hjl), List.take_succ_eq_append_getElem hjf, HRL.out trivial, List.getElem_map, HY.out trivial, HZZ.out trivial, hk])
        subst hk
        obtain ⟨y1, hy1⟩ : ∃ t : Nat, y.k.1.toNat = t := ⟨_, rfl⟩
        obtain ⟨y2, hy2⟩ : ∃ t : Nat, y.k.2.1.toNat = t := ⟨_, rfl⟩
        obtain ⟨y3, hy3⟩ : ∃ t : Nat, y.k.2.2.toNat = t := ⟨_, rfl⟩
        rw [hy1] at d0 q0
        rw [hy2] at d1 q1
        rw [hy3] at d2 q2
        clear hy1 hy2 hy3 d3 d4 d5
        go_wp2_with fail
        go_quiet (fail)
        generalize hq : wr.drewN _ = wq
        have HQ := Lib.hid (show w2.grownBy wq none by rw [← hq]; exact grown_trans HGR.out (grown_drewN _ _))
        clear hq
        go_wp2_with fail
        go_roundw
        all_goals first
          | (exact ⟨j + 1, by omega, by go_num, HST.out trivial, HQ.out⟩)
          | (simp [intOf]; omega)
      · have hne := key_ne hk
        have HCF := Lib.hid (A8.out (fun e => hk (by
          rw [← HY.out trivial, ← HZZ.out trivial]
          have : (c.D.map (·.k))[j]'(by simpa using hjl) = F[j]'hjf := by simp only [e]
          rw [List.getElem_map] at this
          exact this)))
        clear A8 A3 A11 A0 hk d3 d4 d5
        obtain ⟨y1, hy1⟩ : ∃ t : Nat, y.k.1.toNat = t := ⟨_, rfl⟩
        obtain ⟨y2, hy2⟩ : ∃ t : Nat, y.k.2.1.toNat = t := ⟨_, rfl⟩
        obtain ⟨y3, hy3⟩ : ∃ t : Nat, y.k.2.2.toNat = t := ⟨_, rfl⟩
        obtain ⟨z1, hz1⟩ : ∃ t : Nat, z.1.toNat = t := ⟨_, rfl⟩
        obtain ⟨z2, hz2⟩ : ∃ t : Nat, z.2.1.toNat = t := ⟨_, rfl⟩
        obtain ⟨z3, hz3⟩ : ∃ t : Nat, z.2.2.toNat = t := ⟨_, rfl⟩
        rw [hy1] at d0
        rw [hy2] at d1
        rw [hy3] at d2
        rw [hz1] at q0
        rw [hz2] at q1
        rw [hz3] at q2
        rw [hy1, hy2, hy3, hz1, hz2, hz3] at hne
        clear hy1 hy2 hy3 hz1 hz2 hz3
        rcases hne with e1 | ⟨e1, e2⟩ | ⟨e1, e2, e3⟩
        all_goals (
          go_wp2_with fail
          go_quiet (fail)
          generalize hq : wr.drewN _ = wq
          have HQ := Lib.hid (show w2.grownBy wq none by rw [← hq]; exact grown_trans HGR.out (grown_drewN _ _))
          clear hq
          go_wp2_with fail
          go_ret
          exact ⟨ret_i64 HCF.out.symm, grown_trans HG.out HQ.out⟩)
    · obtain rfl : j = n := by omega
      have HEK := Lib.hid (fun _ : True => show c.D.map (·.k) = F by
        have h := HRL.out trivial
        rw [List.take_of_length_le (by rw [List.length_map, HN.out trivial]; exact Nat.le_refl _), List.take_of_length_le (by rw [HFN.out trivial]; exact Nat.le_refl _)] at h
        exact h)
      have A3 := Lib.hid (A3.out (HEK.out trivial))
      have A11 := Lib.hid (A11.out (HEK.out trivial))
      have A0 := Lib.hid (A0.out (HEK.out trivial))
      clear A8 HRL HEK c2
      go_wp2_with fail
      obtain ⟨wa, hwa⟩ : ∃ u, u = wr := ⟨_, rfl⟩
      subst hwa
      clear hlt hj
      go_loopw [5] (fun i wr => RC2 w2 j c.D i wr) (fun i _ => j - (intOf i).toNat)
      case atStart => exact ⟨0, Nat.zero_le _, rfl, fun d h => by simp at h, HGR.out⟩
      case round =>
        obtain ⟨q, hq, rfl, hno, hg⟩ := hrel
        have HNO := Lib.hid hno; have HGR := Lib.hid hg
        have c2 := (HBX.out.grown hg).cell 2 rfl
        clear hno hg
        by_cases hlt : q < j
        · have hjl : q < c.D.length := by rw [HN.out trivial]; exact hlt
          obtain ⟨y, hy⟩ : ∃ y, c.D[q]'hjl = y := ⟨_, rfl⟩
          obtain ⟨b, o, ea, d0, d1, d2, d3, d4, d5⟩ := (HL.out q hjl).grown HGR.out
          rw [hy] at d3 d4 d5
          have HY := Lib.hid (fun _ : True => hy)
          subst ea
          have i0 : (0 : Int) ≤ (q : Int) := by omega
          have i1 : (q : Int) < (j : Int) := by omega
          clear hy d0 d1 d2
          have HTA := Lib.hid (fun h : outB y = false => take_snoc_all (p := fun d => outB d = false) hjl (by rw [HY.out trivial]; exact h) HNO.out)
          have HOU := Lib.hid (fun h : outB y = true => A3.out (by rw [List.any_eq_true]; exact ⟨y, by rw [← HY.out trivial]; exact List.getElem_mem _, h⟩))
          obtain ⟨lo, hlo⟩ : ∃ z, y.lo = z := ⟨_, rfl⟩
          obtain ⟨ini, hini⟩ : ∃ z, y.ini = z := ⟨_, rfl⟩
          obtain ⟨hi, hhi⟩ : ∃ z, y.hi = z := ⟨_, rfl⟩
          have hob : outB y = (decide (ini < lo) || decide (hi < ini)) := by unfold outB; rw [hlo, hini, hhi]
          rw [hob] at HTA HOU
          rw [hlo] at d3
          rw [hini] at d4
          rw [hhi] at d5
          clear hob hlo hini hhi A3
          by_cases h1 : ini < lo
          · have HCF := Lib.hid (HOU.out (by rw [decide_eq_true h1]; rfl))
            have t1 : decide (ini < lo) = true := decide_eq_true h1
            clear HTA HOU A11 A0
            go_wp2_with fail
            go_quiet (fail)
            generalize hq : wr.drewN _ = wq
            have HQ := Lib.hid (show w2.grownBy wq none by rw [← hq]; exact grown_trans HGR.out (grown_drewN _ _))
            clear hq
            go_wp2_with fail
            go_ret
            exact ⟨ret_i64 HCF.out.symm, grown_trans HG.out HQ.out⟩
          by_cases h2 : hi < ini
          · have HCF := Lib.hid (HOU.out (by rw [decide_eq_true h2, Bool.or_true]))
            have t1 : decide (ini < lo) = false := decide_eq_false h1
            have t2 : decide (hi < ini) = true := decide_eq_true h2
            clear HTA HOU A11 A0
            go_wp2_with fail
            go_quiet (fail)
            generalize hq : wr.drewN _ = wq
            have HQ := Lib.hid (show w2.grownBy wq none by rw [← hq]; exact grown_trans HGR.out (grown_drewN _ _))
            clear hq
            go_wp2_with fail
            go_ret
            exact ⟨ret_i64 HCF.out.symm, grown_trans HG.out HQ.out⟩
          have HCF := Lib.hid (HTA.out (by rw [decide_eq_false h1, decide_eq_false h2]; rfl))
          have t1 : decide (ini < lo) = false := decide_eq_false h1
          have t2 : decide (hi < ini) = false := decide_eq_false h2
          clear HTA HOU A11 A0
          go_wp2_with fail
          go_quiet (fail)
          generalize hq : wr.drewN _ = wq
          have HQ := Lib.hid (show w2.grownBy wq none by rw [← hq]; exact grown_trans HGR.out (grown_drewN _ _))
          clear hq
          go_wp2_with fail
          go_roundw
          all_goals first
            | (exact ⟨q + 1, by omega, by go_num, HCF.out, HQ.out⟩)
            | (simp [intOf]; omega)
        · obtain rfl : q = j := by omega
          have HAN := Lib.hid (show c.D.any outB = false by
            rw [List.any_eq_false]
            intro d hd
            rw [HNO.out d (by rw [List.take_of_length_le (by rw [HN.out trivial]; exact Nat.le_refl _)]; exact hd)]
            simp)
          have A11 := Lib.hid (A11.out HAN.out)
          have A0 := Lib.hid (A0.out HAN.out)
          clear A3 HNO HAN c2
          go_wp2_with fail
          obtain ⟨wb, hwb⟩ : ∃ u, u = wr := ⟨_, rfl⟩
          subst hwb
          clear hlt hq
          go_loopw [6] (fun i wr => CheckRel w2 c m v i wr) (fun i _ => m - (intOf i).toNat)
          case atStart => exact ⟨0, Nat.zero_le _, rfl, fun x h => absurd h (by omega), HGR.out⟩
          case round =>
            obtain ⟨wd, hwd⟩ : ∃ u, u = wr := ⟨_, rfl⟩
            subst hwd
            obtain ⟨s, hs, rfl, hno, hg⟩ := hrel
            have HNO := Lib.hid hno; have HGR := Lib.hid hg
            have c0 : wd.cell? ⟨w.heap.size, 0, none⟩ = some (.int .i64 (m : Int)) := by rw [← HSK.out trivial]; exact (HBX.out.grown hg).cell 0 rfl
            have hm4 := HM4.out
            have hv4 := HV4.out
            clear hno hg
            by_cases hlt : s < m
            · go_wp2_with fail
              clear c0
              go_loopw [7] (fun i wr => RC4 w2 (c.p s) v i wr) (fun i _ => v - (intOf i).toNat)
              case atStart => exact ⟨0, Nat.zero_le _, rfl, fun x h => absurd h (by omega), HGR.out⟩
              case round =>
                obtain ⟨we, hwe⟩ : ∃ u, u = wr := ⟨_, rfl⟩
                subst hwe
                obtain ⟨x, hx, rfl, hnx, hg⟩ := hrel
                have HNX := Lib.hid hnx; have HGX := Lib.hid hg
                have c1 : we.cell? ⟨w.heap.size, 1, none⟩ = some (.int .i64 (v : Int)) := by rw [← HWA.out trivial]; exact (HBX.out.grown hg).cell 1 rfl
                clear hnx hg
                by_cases hlx : x < v
                · go_wp2_with fail
                  clear c1
                  go_loopw [8, 9] (fun acc i wr => RC5 w2 (c.p s) v x acc i wr) (fun _ i _ => v - (intOf i).toNat)
                  case atStart => exact ⟨0, Nat.zero_le _, rfl, rfl, HGX.out⟩
                  case round =>
                    obtain ⟨r, hr, rfl, rfl, hg⟩ := hrel
                    have HGV := Lib.hid hg
                    have c1 : wr.cell? ⟨w.heap.size, 1, none⟩ = some (.int .i64 (v : Int)) := by rw [← HWA.out trivial]; exact (HBX.out.grown hg).cell 1 rfl
                    by_cases hlr : r < v
                    · have hpr := ((HBX.out.grown hg).look (3 + s * 4 + r)).trans (prio_cell c a q k (show s < 4 by omega) (show r < 4 by omega))
                      have HSU := Lib.hid (fun _ : True => hasUp_succ (c.p s) r x)
                      obtain ⟨e, he⟩ : ∃ e, hasUp (c.p s) r x = e := ⟨_, rfl⟩
                      obtain ⟨y, hy⟩ : ∃ y, (c.p s r).toNat = y := ⟨_, rfl⟩
                      have hyb : y < 256 := by rw [← hy]; exact (c.p s r).toNat_lt
                      rw [he, hy] at HSU
                      rw [hy] at hpr
                      rw [he]
                      have i0 : (s : Int) < 4 := by omega
                      have i1 : (r : Int) < 4 := by omega
                      have hwr : wrap64 (y : Int) = (y : Int) := by unfold wrap64; omega
                      have hwr2 : IntKind.i64.wrap (y : Int) = (y : Int) := by rw [IntKind.wrap_i64]; omega
                      clear hg he hy
                      cases e
                      · by_cases hyx : y = x
                        · have heq : ((y : Int) == (x : Int)) = true := by rw [hyx]; simp
                          have HSV := Lib.hid (fun _ : True => show hasUp (c.p s) (r + 1) x = true by rw [HSU.out trivial, decide_eq_true hyx]; rfl)
                          go_wp2_with fail
                          go_roundw
                          all_goals first
                            | (exact ⟨r + 1, by omega, by go_num, by rw [HSV.out trivial], HGV.out⟩)
                            | (simp [intOf]; omega)
                        · have heq : ((y : Int) == (x : Int)) = false := by rw [beq_eq_false_iff_ne]; omega
                          have HSV := Lib.hid (fun _ : True => show hasUp (c.p s) (r + 1) x = false by rw [HSU.out trivial, decide_eq_false hyx]; rfl)
                          go_wp2_with fail
                          go_roundw
                          all_goals first
                            | (exact ⟨r + 1, by omega, by go_num, by rw [HSV.out trivial], HGV.out⟩)
                            | (simp [intOf]; omega)
                      · have HSV := Lib.hid (fun _ : True => show hasUp (c.p s) (r + 1) x = true by rw [HSU.out trivial]; rfl)
                        go_wp2_with fail
                        go_roundw
                        all_goals first
                          | (exact ⟨r + 1, by omega, by go_num, by rw [HSV.out trivial], HGV.out⟩)
                          | (simp [intOf]; omega)
                    · obtain rfl : r = v := by omega
                      obtain ⟨e, he⟩ : ∃ e, hasUp (c.p s) r x = e := ⟨_, rfl⟩
                      rw [he]
                      have HE := Lib.hid (fun _ : True => he)
                      clear he hg
                      cases e
                      · have HCF := Lib.hid (A11.out s hlt (named_hasnt (c.p s) HV4.out hlx (HE.out trivial)))
                        clear A11 A0
                        go_wp2_with fail
                        go_ret
                        exact ⟨ret_i64 HCF.out.symm, grown_trans HG.out HGV.out⟩
                      · have HXX := Lib.hid (fun _ : True => show ∀ z < x + 1, hasUp (c.p s) r z = true from fun z hz => by
                          by_cases hzx : z = x
                          · rw [hzx]; exact HE.out trivial
                          · exact HNX.out z (by omega))
                        go_wp2_with fail
                        go_roundw
                        all_goals first
                          | (exact ⟨x + 1, by omega, by go_num, HXX.out trivial, HGV.out⟩)
                          | (simp [intOf]; omega)
                · obtain rfl : x = v := by omega
                  have HXX := Lib.hid (fun _ : True => show ∀ z < s + 1, namedF (c.p z) x = true from fun z hz => by
                    by_cases hzs : z = s
                    · rw [hzs]; exact named_has (c.p s) HV4.out HNX.out
                    · exact HNO.out z (by omega))
                  go_wp2_with fail
                  go_roundw
                  all_goals first
                    | (exact ⟨s + 1, by omega, by go_num, HXX.out trivial, HGX.out⟩)
                    | (simp [intOf]; omega)
            · obtain rfl : s = m := by omega
              have AZ := Lib.hid (A0.out HNO.out)
              have hbw := HBX.out.grown HGR.out
              have HBW := Lib.hid hbw
              have c22 := hbw.cell 22 rfl
              have c23 := hbw.cell 23 rfl
              clear hbw A0 A11 HNO
              by_cases hcap : c.ca ≤ c.se
              · have HCF := Lib.hid (show Z = 5 by rw [AZ.out, if_pos hcap])
                clear AZ
                go_wp2_with fail
                go_ret
                exact ⟨ret_i64 HCF.out.symm, grown_trans HG.out HGR.out⟩
              · have AZ := Lib.hid (show Z = if c.bs < (needF c : Int) then 4 else 0 by rw [AZ.out, if_neg hcap])
                obtain ⟨z, hz⟩ : ∃ z : Nat, needF c = z := ⟨_, rfl⟩
                rw [hz] at HND AZ
                clear hz
                have hw0 : wd.grownBy wd.drew none := grown_drew1 _
                have hw1 : wd.grownBy wd none := World.grownBy.refl _ _
                go_wp2_with fail
                clear c0 c22 c23
                obtain ⟨N, hN⟩ : ∃ N : Nat, N = 26 := ⟨_, rfl⟩
                have HLD := Lib.hid (fun u (hg : wd.grownBy u none) => load_row u w.heap.size [.int .i64 c.sk, .int .i64 c.wa, .slice a q k, .int .u8 ((c.p 0 0).toNat : Int), .int .u8 ((c.p 0 1).toNat : Int), .int .u8 ((c.p 0 2).toNat : Int), .int .u8 ((c.p 0 3).toNat : Int), .int .u8 ((c.p 1 0).toNat : Int), .int .u8 ((c.p 1 1).toNat : Int), .int .u8 ((c.p 1 2).toNat : Int), .int .u8 ((c.p 1 3).toNat : Int), .int .u8 ((c.p 2 0).toNat : Int), .int .u8 ((c.p 2 1).toNat : Int), .int .u8 ((c.p 2 2).toNat : Int), .int .u8 ((c.p 2 3).toNat : Int), .int .u8 ((c.p 3 0).toNat : Int), .int .u8 ((c.p 3 1).toNat : Int), .int .u8 ((c.p 3 2).toNat : Int), .int .u8 ((c.p 3 3).toNat : Int), .int .i64 c.sg, .int .i64 c.od, .int .i64 c.rt, .int .i64 c.se, .int .i64 c.ca, .int .i64 c.bl, .int .i64 c.bs] N (by rw [hN]; rfl) (range_conf (HBW.out.grown hg)))
                have ld := HLD.out
                have XW := look_later HBW.out
                obtain ⟨T, hT⟩ : ∃ T : TypeId, T = 49 := ⟨_, rfl⟩
                have t1 : ∀ u, (isAgg T).run Try.prog u = .ok true u := fun u => by rw [hT]; exact Try.isAgg49 u
                have t2 : ∀ u, (sizeOf T).run Try.prog u = .ok N u := fun u => by rw [hT, hN]; exact Try.sizeOf49 u
                rw [show Op.load 49 (Operand.tmp 1) = Op.load T (Operand.tmp 1) from by rw [hT]]
                have HTT := Lib.hid hT; have HNN := Lib.hid hN
                clear hT hN
                go_region_held_law (fun w' => wd.grownBy w' none) (with_reducible (first | assumption | exact keepA' (by assumption))) (first
                  | (go_at_call 34; (with_reducible refine (HND.out _).mono ?_); rintro r w7 ⟨rfl, hg7⟩; have hSa := growT hg7 (by with_reducible assumption)))
                all_goals (
                  have HG7 := Lib.hid (grown_trans HG.out (grown_trans HGR.out (by with_reducible assumption)))
                  clear XW ld t1 t2 hw0 hw1
                  by_cases hz : c.bs < (z : Int)
                  · have HCF := Lib.hid (show Z = 4 by rw [AZ.out, if_pos hz])
                    clear AZ
                    go_wp2_with fail
                    go_ret
                    exact ⟨ret_i64 HCF.out.symm, HG7.out⟩
                  · have HCF := Lib.hid (show Z = 0 by rw [AZ.out, if_neg hz])
                    clear AZ
                    go_wp2_with fail
                    go_ret
                    exact ⟨ret_i64 HCF.out.symm, HG7.out⟩)

end Go.Proofs.Ytfmcbnoldcfcbaa
