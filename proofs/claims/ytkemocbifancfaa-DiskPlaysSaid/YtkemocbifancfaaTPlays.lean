/-
  TapePlays.
-/
import Derived.Test.YtkemocbifancfaaTFew
namespace Go.Proofs.Ytkemocbifancfaa
open Go.RowKit
set_option maxRecDepth 100000

/-- ahead of each act: the tape in blocks behind w, the document's bytes, and their box -/
structure PlaySt (w : World) (g M B s bx : Nat) (k : Nat) (f : Nat) (l : List UInt8) (vs : List Value) (a : Option Addr) (n c : Nat) (wr : World) : Prop where
  tape : TapeIs wr g M B s f l vs
  doc : SlB wr a n c l
  far : RX wr (TX g M vs) a l
  size : B ≤ wr.heap.size
  lo : ∀ q, TX g M vs q → w.heap.size ≤ q
  bxl : ¬ TX g M vs bx ∧ w.heap.size ≤ bx ∧ (∀ ad, a = some ad → l ≠ [] → ad.block ≠ bx)
  box : Box wr bx 50 [.slice a n c, .int .i64 ((f * s : Nat) : Int), .int .i64 (s : Int)]
  big : f * s + l.length ≤ 600 * k
  grown : w.grownBy wr none
def PlayRel (w : World) (g M B s bx len : Nat) (i : Value) (wr : World) : Prop := ∃ (k f : Nat) (l : List UInt8) (vs : List Value) (a : Option Addr) (n c : Nat), k ≤ len ∧ i = .int .i64 (k : Int) ∧ PlaySt w g M B s bx k f l vs a n c wr
theorem TX_rows {g M n : Nat} {vs vs2 : List Value} (h : RowsOf n vs vs2) : ∀ q, TX g M vs2 q → TX g M vs q ∨ n ≤ q := by
  intro q hq
  rcases hq with e | e | ⟨v, hv, e⟩
  · exact .inl (.inl e)
  · exact .inl (.inr (.inl e))
  · rcases h v hv q e with ⟨u, hu, e2⟩ | h2
    · exact .inl (.inr (.inr ⟨u, hu, e2⟩))
    · exact .inr h2
theorem TapeIs.row {w w' : World} {g M B s f : Nat} {l : List UInt8} {vs : List Value} {k : Nat} (h : TapeIs w g M B s f l vs) (hg : w.grownBy w' (some k)) (hk : ¬ TX g M vs k) : TapeIs w' g M B s f l vs :=
  h.keptX (X := fun q => q = k) (Kept.of_row hg rfl) (fun q hq e => hk (by rw [← e]; exact hq))
/-- one act more -/
theorem PlaySt.next {w wr wd w5 w6 : World} {g M B s bx k f : Nat} {l : List UInt8} {vs : List Value} {a : Option Addr} {n c : Nat} {A : TActV} (h : PlaySt w g M B s bx k f l vs a n c wr) (hd : wr.grownBy wd none) (hA : A.ok w) (hAl : A.len ≤ 600) {a2 : Option Addr} {n2 c2 : Nat} {vs2 : List Value} 
    (ht : TapeIs w5 g M B s (actF s f l A.k A.n) (actL s f l A.k A.n A.b) vs2) (hro : RowsOf wd.heap.size vs vs2) (hk : Kept (TX g M vs) wd w5) (hs : SlB w5 a2 n2 c2 (docL (f * s) s l A.k A.n A.b)) (hn : Near wd l a (docL (f * s) s l A.k A.n A.b) a2) (hx : RX w5 (TX g M vs2) a2 (docL (f * s) s l A.k A.n A.b))
    (hb : Box w6 bx 50 [.slice a2 n2 c2, .int .i64 ((docF (f * s) s l A.k A.n : Nat) : Int), .int .i64 (s : Int)]) (hg6 : w5.grownBy w6 (some bx)) :
    PlaySt w g M B s bx (k + 1) (actF s f l A.k A.n) (actL s f l A.k A.n A.b) vs2 a2 n2 c2 w6 := by
  have hs1 : 1 ≤ s := by have := h.tape.seg.1; omega
  obtain ⟨e1, e2⟩ := act_agree s f l A.b A.k A.n hs1
  rw [e2] at hs hn hx
  rw [e1] at hb
  have hbd := h.box.grown hd
  have hbl := hbd.lt
  have hnx : ¬ TX g M vs2 bx := fun e => by
    rcases TX_rows hro bx e with e | e
    · exact h.bxl.1 e
    · omega
  have hnb : ∀ ad, a2 = some ad → actL s f l A.k A.n A.b ≠ [] → ad.block ≠ bx := fun ad e hne => by
    rcases hn ad e hne with ⟨h0, ad0, e0, e3⟩ | h3
    · rw [← e3]; exact h.bxl.2.2 ad0 e0 h0
    · omega
  have hk6 : Kept (fun q => q = bx) w5 w6 := Kept.of_row hg6 rfl
  refine ⟨ht.row hg6 hnx, hs.keptX (X := fun q => q = bx) (RX.of_rb hs.rb hnb) hk6, ?_, ?_, fun q hq => ?_, ⟨hnx, h.bxl.2.1, hnb⟩, hb, ?_, ?_⟩
  · exact RX.of_rb ((RX.of_rb (X := fun q => q = bx) hs.rb hnb).kept hk6).rb (fun ad e hne hX => by
      obtain ⟨b0, o0, e3, hnx3, _⟩ := hx 0 (List.length_pos_iff.2 hne)
      rw [e] at e3
      cases e3
      exact hnx3 hX)
  · have h1 := h.size; have h2 := hd.size; have h3 := hk.size; have h4 := hg6.size
    omega
  · rcases TX_rows hro q hq with e | e
    · exact h.lo q e
    · have h1 := h.grown.size; have h2 := hd.size
      omega
  · have h1 := act_end s f l A.b A.k A.n hs1
    have h2 := h.big
    have h3 := hA.b.len_eq
    omega
  · have hg5 : w.grownBy w5 none := by
      have hk2 : Kept (fun q => w.heap.size ≤ q) w w5 := (Kept.of_grown (grown_trans h.grown hd)).trans (hk.more h.lo)
      exact ⟨hk2.os, hk2.tape, hk2.output, hk2.size, fun q hq _ => hk2.block q hq (by omega)⟩
    exact grown_new hg5 h.bxl.2.1 hg6
theorem PlaySt.later {w wr w' : World} {g M B s bx k f : Nat} {l : List UInt8} {vs : List Value} {a : Option Addr} {n c : Nat} (h : PlaySt w g M B s bx k f l vs a n c wr) (hg : wr.grownBy w' none) : PlaySt w g M B s bx k f l vs a n c w' :=
  ⟨h.tape.grown hg, h.doc.grown hg, h.far.kept (Kept.of_grown hg), Nat.le_trans h.size hg.size, h.lo, h.bxl, h.box.grown hg, h.big, grown_trans h.grown hg⟩
theorem Box.set3 {w : World} {g : Nat} {T : TypeId} {x y z : Value} (h : Box w g T [x, y, z]) (a b c : Value) : Box (((w.setCell ⟨g, 0, none⟩ a).setCell ⟨g, 1, none⟩ b).setCell ⟨g, 2, none⟩ c) g T [a, b, c] :=
  ((h.set 0 a).set 1 b).set 2 c
end Go.Proofs.Ytkemocbifancfaa
