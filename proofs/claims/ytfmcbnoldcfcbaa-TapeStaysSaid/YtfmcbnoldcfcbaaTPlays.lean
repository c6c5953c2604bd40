/-
  TapePlays.
-/
import Derived.Test.YtfmcbnoldcfcbaaTFew
namespace Go.Proofs.Ytfmcbnoldcfcbaa
open Go.RowKit
set_option maxRecDepth 100000

/-- ahead of each act: the tape in blocks behind w, the document's bytes, and their box -/
structure PlaySt (w : World) (g M B s bx : Nat) (k : Nat) (f : Nat) (l : List UInt8) (vs : List Value) (a : Option Addr) (n c : Nat) (wr : World) : Prop where
  tape : TapeIs wr g M B s f l vs
  doc : SlB wr a n c l
  far : RX wr (TX g M vs) a l
  size : B ≤ wr.heap.size
  lo : ∀ q, TX g M vs q → w.heap.size ≤ q
  bxl : ¬ TX g M vs bx ∧ w.heap.size ≤ bx ∧ (∀ ad, a = some ad → l ≠ [] → ad.block ≠ bx)
  box : Box wr bx 29 [.slice a n c, .int .i64 ((f * s : Nat) : Int), .int .i64 (s : Int)]
  big : f * s + l.length ≤ 600 * k
  grown : w.grownBy wr none
def PlayRel (w : World) (g M B s bx len : Nat) (i : Value) (wr : World) : Prop := ∃ (k f : Nat) (l : List UInt8) (vs : List Value) (a : Option Addr) (n c : Nat), k ≤ len ∧ i = .int .i64 (k : Int) ∧ PlaySt w g M B s bx k f l vs a n c wr
theorem TX_rows {g M n : Nat} {vs vs2 : List Value} (h : RowsOf n vs vs2) : ∀ q, TX g M vs2 q → TX g M vs q ∨ n ≤ q := by
  intro q hq
  rcases hq with e | e | ⟨v, hv, e⟩
  · exact .inl (.inl e)
  · exact .inl (.inr (.inl e))
  · rcases h v hv q e with ⟨u, hu, e2⟩ | h2
    · exact .inl (.inr (.inr ⟨u, hu, e2⟩))
    · exact .inr h2
theorem TapeIs.row {w w' : World} {g M B s f : Nat} {l : List UInt8} {vs : List Value} {k : Nat} (h : TapeIs w g M B s f l vs) (hg : w.grownBy w' (some k)) (hk : ¬ TX g M vs k) : TapeIs w' g M B s f l vs :=
  h.keptX (X := fun q => q = k) (Kept.of_row hg rfl) (fun q hq e => hk (by rw [← e]; exact hq))
/-- one act more -/
theorem PlaySt.next {w wr wd w5 w6 : World} {g M B s bx k f : Nat} {l : List UInt8} {vs : List Value} {a : Option Addr} {n c : Nat} {A : TActV} (h : PlaySt w g M B s bx k f l vs a n c wr) (hd : wr.grownBy wd none) (hA : A.ok w) (hAl : A.len ≤ 600) {a2 : Option Addr} {n2 c2 : Nat} {vs2 : List Value} 
    (ht : TapeIs w5 g M B s (actF s f l A.k A.n) (actL s f l A.k A.n A.b) vs2) (hro : RowsOf wd.heap.size vs vs2) (hk : Kept (TX g M vs) wd w5) (hs : SlB w5 a2 n2 c2 (docL (f * s) s l A.k A.n A.b)) (hn : Near wd l a (docL (f * s) s l A.k A.n A.b) a2) (hx : RX w5 (TX g M vs2) a2 (docL (f * s) s l A.k A.n A.b))
    (hb : Box w6 bx 29 [.slice a2 n2 c2, .int .i64 ((docF (f * s) s l A.k A.n : Nat) : Int), .int .i64 (s : Int)]) (hg6 : w5.grownBy w6 (some bx)) :
    PlaySt w g M B s bx (k + 1) (actF s f l A.k A.n) (actL s f l A.k A.n A.b) vs2 a2 n2 c2 w6 := by
  have hs1 : 1 ≤ s := by have := h.tape.seg.1; omega
  obtain ⟨e1, e2⟩ := act_agree s f l A.b A.k A.n hs1
  rw [e2] at hs hn hx
  rw [e1] at hb
  have hbd := h.box.grown hd
  have hbl := hbd.lt
  have hnx : ¬ TX g M vs2 bx := fun e => by
    rcases TX_rows hro bx e with e | e
    · exact h.bxl.1 e
    · omega
  have hnb : ∀ ad, a2 = some ad → actL s f l A.k A.n A.b ≠ [] → ad.block ≠ bx := fun ad e hne => by
    rcases hn ad e hne with ⟨h0, ad0, e0, e3⟩ | h3
    · rw [← e3]; exact h.bxl.2.2 ad0 e0 h0
    · omega
  have hk6 : Kept (fun q => q = bx) w5 w6 := Kept.of_row hg6 rfl
  refine ⟨ht.row hg6 hnx, hs.keptX (X := fun q => q = bx) (RX.of_rb hs.rb hnb) hk6, ?_, ?_, fun q hq => ?_, ⟨hnx, h.bxl.2.1, hnb⟩, hb, ?_, ?_⟩
  · exact RX.of_rb ((RX.of_rb (X := fun q => q = bx) hs.rb hnb).kept hk6).rb (fun ad e hne hX => by
      obtain ⟨b0, o0, e3, hnx3, _⟩ := hx 0 (List.length_pos_iff.2 hne)
      rw [e] at e3
      cases e3
      exact hnx3 hX)
  · have h1 := h.size; have h2 := hd.size; have h3 := hk.size; have h4 := hg6.size
    omega
  · rcases TX_rows hro q hq with e | e
    · exact h.lo q e
    · have h1 := h.grown.size; have h2 := hd.size
      omega
  · have h1 := act_end s f l A.b A.k A.n hs1
    have h2 := h.big
    have h3 := hA.b.len_eq
    omega
  · have hg5 : w.grownBy w5 none := by
      have hk2 : Kept (fun q => w.heap.size ≤ q) w w5 := (Kept.of_grown (grown_trans h.grown hd)).trans (hk.more h.lo)
      exact ⟨hk2.os, hk2.tape, hk2.output, hk2.size, fun q hq _ => hk2.block q hq (by omega)⟩
    exact grown_new hg5 h.bxl.2.1 hg6
theorem PlaySt.later {w wr w' : World} {g M B s bx k f : Nat} {l : List UInt8} {vs : List Value} {a : Option Addr} {n c : Nat} (h : PlaySt w g M B s bx k f l vs a n c wr) (hg : wr.grownBy w' none) : PlaySt w g M B s bx k f l vs a n c w' :=
  ⟨h.tape.grown hg, h.doc.grown hg, h.far.kept (Kept.of_grown hg), Nat.le_trans h.size hg.size, h.lo, h.bxl, h.box.grown hg, h.big, grown_trans h.grown hg⟩
theorem Box.set3 {w : World} {g : Nat} {T : TypeId} {x y z : Value} (h : Box w g T [x, y, z]) (a b c : Value) : Box (((w.setCell ⟨g, 0, none⟩ a).setCell ⟨g, 1, none⟩ b).setCell ⟨g, 2, none⟩ c) g T [a, b, c] :=
  ((h.set 0 a).set 1 b).set 2 c
set_option maxHeartbeats 3200000 in
theorem tapePlays_walk (x : Int) (a : Option Addr) (len cap : Nat) (A : Nat → TActV) (y : Int) (w : World) (hy : -9223372036854775808 ≤ y) (hl : len ≤ maxLen) (hA : ∀ i, i < len → TActAt w a i (A i)) :
    Calls Try.prog 3 #[.int .i64 x, .slice a len cap, .int .i64 y] w fun r w' => r = .returned (.bool true) ∧ Below w.heap.size w w' := by
  have HA := Lib.hid hA
  have hfew := Lib.hid (tape_few w a len cap A hl hA)
  clear hA hl
  go_enter Try.func3, Try.ntmps3
  go_wp2_with fail
  refine hfew.out.mono ?_
  rintro e w1 ⟨f, rfl, hg1, hf⟩
  have HG1 := Lib.hid hg1; clear hg1
  cases f
  · go_wp2_with fail
    refine (tape_works w1).mono ?_
    rintro e w2 ⟨rfl, hb⟩
    have HB := Lib.hid hb; clear hb
    go_wp2_with fail
    go_ret
    exact ⟨rfl, grown_below (grown_trans HG1.out (grown_of_below HB.out))⟩
  · have h40 := (hf rfl).1
    have HLEN := Lib.hid (hf rfl).2
    clear hf
    go_wp2_with fail
    refine (tape_new x w1).mono ?_
    rintro e w2 ⟨rfl, ht2, hg2⟩
    have HT2 := Lib.hid ht2; have HG2 := Lib.hid hg2
    clear ht2 hg2
    go_wp2_with fail
    refine (ref_new x w2).mono ?_
    rintro e w3 ⟨rfl, hg3⟩
    have hsz := HG1.out.size
    have hs2 := HT2.out.box.lt
    obtain ⟨s, hs⟩ : ∃ s, clampS x = s := ⟨_, rfl⟩
    rw [hs] at HT2
    rw [hs]
    have hbx := Box.new w3 29 [.slice none 0 0, .int .i64 0, .int .i64 (s : Int)] w3.heap.size rfl
    have hg4 := World.grownBy_alloc w3 (.cells #[.slice none 0 0, .int .i64 0, .int .i64 (s : Int)] 29) none
    have hs3 := hg3.size
    have hs4 : (w3.alloc (.cells #[.slice none 0 0, .int .i64 0, .int .i64 (s : Int)] 29)).heap.size = w3.heap.size + 1 := by simp
    have HST := Lib.hid (show PlaySt w (w1.heap.size + 1) w1.heap.size (w1.heap.size + 2) s w3.heap.size 0 0 [] [] none 0 0 (w3.alloc (.cells #[.slice none 0 0, .int .i64 0, .int .i64 (s : Int)] 29)) from
      ⟨(HT2.out.grown hg3).grown hg4, SlB.empty, RX.nil _ _ _, by rw [hs4]; omega, fun q hq => by
          rcases hq with e | e | ⟨v, hv, _⟩
          · omega
          · omega
          · simp at hv, ⟨fun hq => by
          rcases hq with e | e | ⟨v, hv, _⟩
          · omega
          · omega
          · simp at hv, by omega, fun ad e => (by cases e)⟩, by rw [Nat.zero_mul]; exact hbx, by rw [Nat.zero_mul]; exact Nat.le_refl _, grown_trans (grown_trans (grown_trans HG1.out HG2.out) hg3) hg4⟩)
    have hyy := hy
    clear hbx hg4 hs4 hg3 hs HT2 HG2
    go_wp2_with fail
    generalize w3.alloc (.cells #[.slice none 0 0, .int .i64 0, .int .i64 (s : Int)] 29) = w4 at *
    obtain ⟨bx, hbx⟩ : ∃ bx, w3.heap.size = bx := ⟨_, rfl⟩
    obtain ⟨M, hM⟩ : ∃ M, w1.heap.size = M := ⟨_, rfl⟩
    rw [hbx, hM] at HST
    rw [hbx, hM]
    clear hbx hM hsz hs2 hs3
    obtain ⟨g, hg⟩ : ∃ g, M + 1 = g := ⟨_, rfl⟩
    rw [hg] at HST
    rw [hg]
    clear hg
    go_loopw [9] (fun i wr => PlayRel w g M (M + 2) s bx len i wr) (fun i _ => len - (intOf i).toNat)
    case atStart => exact ⟨0, 0, [], [], none, 0, 0, Nat.zero_le _, rfl, HST.out⟩
    case round =>
      obtain ⟨k, f, l, vs, ao, n, c, hk, rfl, hst⟩ := hrel
      have HS := Lib.hid hst
      have b0 := hst.box.look
      have b1 := hst.box.open
      clear hst
      by_cases hlt : k < len
      · have HACT := Lib.hid ((HA.out k hlt).grown HS.out.grown)
        have HALE := Lib.hid (HLEN.out k hlt)
        obtain ⟨b, o, rfl, x0, x1, x2, hok⟩ := HACT.out
        have HOK := Lib.hid hok
        obtain ⟨F, hF⟩ : ∃ F, f * s = F := ⟨_, rfl⟩
        rw [hF] at b0
        have HF := Lib.hid (fun _ : True => hF)
        have hbig := HS.out.big
        have hdl := HS.out.doc.len
        have HDO := Lib.hid (tape_do g M (M + 2) s f l vs ao n c F s l (A k) wr.drew (HS.out.tape.grown (grown_drew1 wr)) HS.out.size (HS.out.doc.grown (grown_drew1 wr)) (HS.out.far.kept (Kept.of_grown (grown_drew1 wr))) (hok.grown (grown_drew1 wr))
          ((RX.new ((HA.out k hlt).ok).b.reads HS.out.grown HS.out.lo).kept (Kept.of_grown (grown_drew1 wr))) HS.out.tape.seg (by have := HALE.out; omega) (by have := HALE.out; omega))
        have HBX := Lib.hid (HS.out.box.grown (grown_drew1 wr))
        clear hok hF hbig hdl
        have i0 : (0 : Int) ≤ (k : Int) := by omega
        have i1 : (k : Int) < (len : Int) := by omega
        go_wp2_with fail
        go_region_law (first
          | (go_simp
             go_at_call 16
             refine HDO.out.mono ?_
             rintro e w5 ⟨a2, n2, c2, vs2, rfl, ht5, hro5, hk5, hs5, hn5, hx5⟩
             have hb5 := HBX.out.keptX hk5 HS.out.bxl.1
             have d0 := hb5.look
             have d1 := hb5.open
             have HF2 := Lib.hid (show PlaySt w g M (M + 2) s bx (k + 1) (actF s f l (A k).k (A k).n) (actL s f l (A k).k (A k).n (A k).b) vs2 a2 n2 c2 (((w5.setCell ⟨bx, 0, none⟩ (.slice a2 n2 c2)).setCell ⟨bx, 1, none⟩ (.int .i64 ((docF F s l (A k).k (A k).n : Nat) : Int))).setCell ⟨bx, 2, none⟩ (.int .i64 (s : Int))) from by
               have hF := HF.out trivial
               subst hF
               exact HS.out.next (grown_drew1 wr) (HA.out k hlt).ok HALE.out ht5 hro5 hk5 hs5 hn5 hx5 (hb5.set3 _ _ _) (grow3 _ _ _ _ _))
             have HE2 := Lib.hid (fun _ : True => show docF F s l (A k).k (A k).n = actF s f l (A k).k (A k).n * s from by
               have hF := HF.out trivial
               subst hF
               exact (act_agree s f l (A k).b (A k).k (A k).n (by have := HS.out.tape.seg.1; omega)).1)
             obtain ⟨F2, hF2⟩ : ∃ F2, docF F s l (A k).k (A k).n = F2 := ⟨_, rfl⟩
             rw [hF2] at HF2 HE2
             rw [hF2]
             obtain ⟨f2, hf2⟩ : ∃ f2, actF s f l (A k).k (A k).n = f2 := ⟨_, rfl⟩
             obtain ⟨l2, hl2⟩ : ∃ l2, actL s f l (A k).k (A k).n (A k).b = l2 := ⟨_, rfl⟩
             rw [hf2] at HF2 HE2
             rw [hl2] at HF2
             clear ht5 hro5 hk5 hs5 hn5 hx5 hF2 hf2 hl2))
        all_goals (
          have hbig := HF2.out.big
          have HSM := Lib.hid (tape_same g M (M + 2) s f2 l2 vs2 a2 n2 c2 y _ HF2.out.tape HF2.out.doc (by omega) hy)
          rw [← HE2.out trivial] at HSM
          clear hb5 b0 b1 hbig
          go_wp2_with fail
          refine HSM.out.mono ?_
          rintro e w7 ⟨rfl, hg7⟩
          have HEND := Lib.hid (HF2.out.later hg7)
          clear hg7 d0 d1
          go_wp2_with fail
          exact ⟨⟨k + 1, f2, l2, vs2, a2, n2, c2, by omega, by go_num, HEND.out⟩, by simp only [intOf]; omega⟩)
      · obtain rfl : k = len := by omega
        have HG := Lib.hid HS.out.grown
        go_wp2_with fail
        refine (tape_works wr).mono ?_
        rintro e w2 ⟨rfl, hb⟩
        have HB := Lib.hid hb; clear hb
        go_wp2_with fail
        go_ret
        exact ⟨rfl, grown_below (grown_trans HG.out (grown_of_below HB.out))⟩

end Go.Proofs.Ytfmcbnoldcfcbaa
