/-
  The walks through the reference of volumes: 'between', 'New'.
-/
import Derived.Test.YtkemocbifancfaaVolMore
namespace Go.Proofs.Ytkemocbifancfaa
open Go.RowKit
set_option maxRecDepth 100000

theorem refv_between (n : Int) (K : Nat) (w : World) :
    Calls Try.prog 64 #[.int .i64 n, .int .i64 0, .int .i64 (K : Nat)] w fun e w' => e = .returned (.int .i64 (clampN n K : Nat)) ∧ w = w' := by
  obtain ⟨r, hr⟩ : ∃ r, clampN n K = r := ⟨_, rfl⟩
  rw [hr]
  have HR := Lib.hid hr; clear hr
  by_cases h0 : n < 0
  · have hz : r = 0 := by rw [← HR.out]; unfold clampN; omega
    subst hz
    go_enter Try.func64, Try.ntmps64
    go_wp2_with fail
    go_ret
    exact ⟨rfl, rfl⟩
  · by_cases h1 : (K : Int) < n
    · have hz : r = K := by rw [← HR.out]; unfold clampN; omega
      subst hz
      go_enter Try.func64, Try.ntmps64
      go_wp2_with fail
      go_ret
      exact ⟨rfl, rfl⟩
    · have hz : n = (r : Int) := by rw [← HR.out]; unfold clampN; omega
      subst hz
      have h2 : (r : Int) ≤ (K : Int) := by omega
      go_enter Try.func64, Try.ntmps64
      go_wp2_with fail
      go_ret
      exact ⟨rfl, rfl⟩

/-- blocks of bytes, each a slice of its own, from a on; all of it outside X -/
def RVB (w : World) (X : Nat → Prop) (a : Option Addr) (bs : List (List UInt8)) : Prop :=
  ∀ i (h : i < bs.length), ∃ b o, a = some ⟨b, o, none⟩ ∧ ¬ X b ∧ ∃ a' n c, w.cell? ⟨b, o + i, none⟩ = some (.slice a' n c) ∧ bs[i].length = n ∧ RX w X a' bs[i]
theorem RVB.kept {w w' : World} {X : Nat → Prop} {a : Option Addr} {bs : List (List UInt8)} (h : RVB w X a bs) (hk : Kept X w w') : RVB w' X a bs := by
  intro i hi
  obtain ⟨b, o, e, hx, a', n, c, hc, hn, hr⟩ := h i hi
  exact ⟨b, o, e, hx, a', n, c, (World.cell?_of_block (a := ⟨b, o + i, none⟩) (hk.block b (World.block_lt_of_cell? w _ hc) hx)).trans hc, hn, hr.kept hk⟩

/-- values that are slices of bytes, each read outside X -/
def Slots (w : World) (X : Nat → Prop) (xs : List Value) (bs : List (List UInt8)) : Prop :=
  xs.length = bs.length ∧ ∀ i (h : i < bs.length), ∃ a n c, xs[i]? = some (.slice a n c) ∧ bs[i].length = n ∧ RX w X a bs[i]
theorem Slots.nil (w : World) (X : Nat → Prop) : Slots w X [] [] := ⟨rfl, fun i h => absurd h (by simp)⟩
theorem Slots.kept {w w' : World} {X : Nat → Prop} {xs : List Value} {bs : List (List UInt8)} (h : Slots w X xs bs) (hk : Kept X w w') : Slots w' X xs bs :=
  ⟨h.1, fun i hi => by obtain ⟨a, n, c, h1, h2, h3⟩ := h.2 i hi; exact ⟨a, n, c, h1, h2, h3.kept hk⟩⟩
theorem Slots.weaken {w : World} {X X' : Nat → Prop} {xs : List Value} {bs : List (List UInt8)} (h : Slots w X xs bs) (hX : ∀ k, X' k → X k) : Slots w X' xs bs :=
  ⟨h.1, fun i hi => by
    obtain ⟨a, n, c, h1, h2, h3⟩ := h.2 i hi
    exact ⟨a, n, c, h1, h2, fun j hj => by obtain ⟨b, o, e, hx, hc⟩ := h3 j hj; exact ⟨b, o, e, fun hx' => hx (hX b hx'), hc⟩⟩⟩
/-- blocks to come are in no reading -/
theorem Slots.fresh {w : World} {X : Nat → Prop} {xs : List Value} {bs : List (List UInt8)} (h : Slots w X xs bs) : Slots w (fun k => X k ∨ w.heap.size ≤ k) xs bs :=
  ⟨h.1, fun i hi => by
    obtain ⟨a, n, c, h1, h2, h3⟩ := h.2 i hi
    exact ⟨a, n, c, h1, h2, fun j hj => by
      obtain ⟨b, o, e, hx, hc⟩ := h3 j hj
      have := World.block_lt_of_cell? w _ hc
      exact ⟨b, o, e, fun hx' => hx'.elim hx (fun h' => by simp only at this; omega), hc⟩⟩⟩
/-- the set X and the block of a row -/
def Plus (X : Nat → Prop) (v : Value) : Nat → Prop := fun k => X k ∨ v.ownBlock = some k
/-- one more value in a row that is appended to: what was read is read, behind the append -/
theorem Slots.append {w w' : World} {X : Nat → Prop} {v : Value} {xs : List Value} {bs : List (List UInt8)} {g n c : Nat} (h : Slots w (Plus X v) xs bs) (hg : w.grownBy w' v.ownBlock) (hl : v.ownBlock = some g ∨ w.heap.size ≤ g) :
    Slots w' (Plus X (.slice (some ⟨g, 0, none⟩) n c)) xs bs := by
  have hk : Kept (fun k => Plus X v k ∨ w.heap.size ≤ k) w w' := ⟨hg.os, hg.tape, hg.output, hg.size, fun k hk hx => hg.block k hk (fun e => hx (.inl (.inr e.symm)))⟩
  refine (h.fresh.kept hk).weaken fun k hx => ?_
  rcases hx with hx | hx
  · exact .inl (.inl hx)
  · have e : g = k := by simpa [Value.ownBlock] using hx
    subst e
    exact hl.imp (fun e => .inr e) id
theorem Slots.snoc {w : World} {X : Nat → Prop} {xs : List Value} {bs : List (List UInt8)} (h : Slots w X xs bs) {a : Option Addr} {n c : Nat} {b : List UInt8} (hn : b.length = n) (hr : RX w X a b) : Slots w X (xs ++ [.slice a n c]) (bs ++ [b]) := by
  refine ⟨by simp [h.1], fun i hi => ?_⟩
  by_cases hlt : i < bs.length
  · obtain ⟨a', n', c', h1, h2, h3⟩ := h.2 i hlt
    refine ⟨a', n', c', ?_, ?_, ?_⟩
    · rw [List.getElem?_append_left (by rw [h.1]; exact hlt)]; exact h1
    · rw [List.getElem_append_left hlt]; exact h2
    · rw [List.getElem_append_left hlt]; exact h3
  · have hi' : i = bs.length := by rw [List.length_append, List.length_singleton] at hi; omega
    subst hi'
    refine ⟨a, n, c, ?_, ?_, ?_⟩
    · rw [← h.1]; simp
    · simp [hn]
    · simpa using hr
theorem RVB.of_own {w : World} {X : Nat → Prop} {B : Nat} {a : Option Addr} {n c : Nat} {xs : List Value} {bs : List (List UInt8)} (ho : OwnV w B 23 (.slice a n c) xs) (hs : Slots w X xs bs) (hX : ∀ k, B ≤ k → ¬ X k) : RVB w X a bs := by
  intro i hi
  obtain ⟨a', n', c', h1, h2, h3⟩ := hs.2 i hi
  obtain ⟨g, rfl, hB, hc⟩ := ho.cell i (by rw [hs.1]; exact hi)
  refine ⟨g, 0, rfl, hX g hB, a', n', c', ?_, h2, h3⟩
  rw [Nat.zero_add, hc]
  rw [List.getElem?_eq_getElem (by rw [hs.1]; exact hi)] at h1
  exact h1

theorem info_bytes : (Try.prog.info? 23).map (fun i => (i.zero, i.size, i.bytes)) = some (some (.slice none 0 0), 1, 24) := by kernel_rfl

/-- a volume of the reference's: a value -/
def RefVol (w : World) (X : Nat → Prop) (bs : List (List UInt8)) (sz : Nat) (v : Value) : Prop :=
  ∃ a n c, v = .agg #[.slice a n c, .int .i64 sz] ∧ bs.length = n ∧ RVB w X a bs ∧ ∀ b ∈ bs, b.length = sz

def RefNewPost (w : World) (X : Nat → Prop) (nb sz : Nat) (e : Ending) (w' : World) : Prop :=
  ∃ v, e = .returned v ∧ RefVol w' X (List.replicate nb (List.replicate sz 0)) sz v ∧ w.grownBy w' none

/-- blocks below B -/
def Low (B : Nat) : Nat → Prop := fun k => k < B
/-- what holds ahead of each round of 'New' -/
def NewRel (w : World) (nb sz : Nat) (i : Value) (wr : World) : Prop :=
  ∃ (k : Nat) (vB : Value) (xs : List Value), k ≤ nb ∧ i = .int .i64 k ∧ OwnV wr (w.heap.size + 2) 23 vB xs ∧ Slots wr (Plus (Low (w.heap.size + 2)) vB) xs (List.replicate k (List.replicate sz 0)) ∧
      Box wr (w.heap.size + 1) 48 [vB, .int .i64 sz] ∧ Box wr w.heap.size 48 [.slice none 0 0, .int .i64 0] ∧ w.grownBy wr none ∧ w.heap.size + 2 ≤ wr.heap.size

theorem newRel_step {w wr w2 : World} {nb sz k : Nat} {vB : Value} {xs : List Value} (hk : k < nb)
    (ho : OwnV wr (w.heap.size + 2) 23 vB xs) (hs : Slots wr (Plus (Low (w.heap.size + 2)) vB) xs (List.replicate k (List.replicate sz 0)))
    (b1 : Box wr (w.heap.size + 1) 48 [vB, .int .i64 sz]) (b0 : Box wr w.heap.size 48 [.slice none 0 0, .int .i64 0]) (hgr : w.grownBy wr none) (hsz : w.heap.size + 2 ≤ wr.heap.size)
    {o : Obj} {g n c : Nat} (ho2 : OwnV w2 (w.heap.size + 2) 23 (.slice (some ⟨g, 0, none⟩) n c) (xs ++ [.slice (some ⟨wr.heap.size, 0, none⟩) sz sz]))
    (hg2 : (((wr.alloc (.cells (madeCells #[.int .u8 0] sz) 5)).alloc o).drew).grownBy w2 vB.ownBlock)
    (hl2 : vB.ownBlock = some g ∨ (((wr.alloc (.cells (madeCells #[.int .u8 0] sz) 5)).alloc o).drew).heap.size ≤ g) :
    NewRel w nb sz (.int .i64 ((k : Int) + 1)) (w2.setCell ⟨w.heap.size + 1, 0, none⟩ (.slice (some ⟨g, 0, none⟩) n c)) := by
  have hnb : vB.ownBlock ≠ some (w.heap.size + 1) := ho.ne (by omega)
  have hnb0 : vB.ownBlock ≠ some w.heap.size := ho.ne (by omega)
  have hgB : w.heap.size + 2 ≤ g := (ho2.lt g rfl).1
  have hgW : wr.grownBy (((wr.alloc (.cells (madeCells #[.int .u8 0] sz) 5)).alloc o).drew) none := grown_drew (grown_trans (World.grownBy_alloc _ _ none) (World.grownBy_alloc _ _ none))
  have hsW : wr.heap.size + 2 = (((wr.alloc (.cells (madeCells #[.int .u8 0] sz) 5)).alloc o).drew).heap.size := by simp
  have hz : BlkB (((wr.alloc (.cells (madeCells #[.int .u8 0] sz) 5)).alloc o).drew) wr.heap.size (List.replicate sz 0) := (BlkB.zero wr sz).alloc o
  refine ⟨k + 1, _, _, hk, by simp, ho2.setCell (by omega) _, ?_, ?_, ?_, ?_, ?_⟩
  · rw [List.replicate_succ']
    have h1 : Slots (((wr.alloc (.cells (madeCells #[.int .u8 0] sz) 5)).alloc o).drew) (Plus (Low (w.heap.size + 2)) vB) xs (List.replicate k (List.replicate sz 0)) := hs.kept (Kept.of_grown hgW)
    have h2 := h1.append hg2 hl2 (n := n) (c := c)
    have hz2 : BlkB w2 wr.heap.size (List.replicate sz 0) := hz.kept hg2 (fun e => by have := (ho.lt _ e.symm).2; omega)
    have hr : RX w2 (Plus (Low (w.heap.size + 2)) (.slice (some ⟨g, 0, none⟩) n c)) (some ⟨wr.heap.size, 0, none⟩) (List.replicate sz 0) := by
      refine RX.of_rb (by have := hz2.reads 0; simpa using this) fun ad e _ => ?_
      cases e
      rintro (h | h)
      · have h' : wr.heap.size < w.heap.size + 2 := h
        omega
      · have e' : g = wr.heap.size := by simpa [Value.ownBlock] using h
        rcases hl2 with h' | h'
        · have := (ho.lt _ h').2; omega
        · omega
    have h3 := Slots.snoc h2 (c := sz) (by simp : (List.replicate sz (0 : UInt8)).length = sz) hr
    exact h3.kept (Kept.of_row (grown_setCell w2 (w.heap.size + 1) 0 _) (.inl (by show w.heap.size + 1 < w.heap.size + 2; omega)))
  · have := (((b1.alloc (.cells (madeCells #[.int .u8 0] sz) 5)).alloc o).drew).kept hg2 hnb
    exact this.set 0 _
  · have := (((b0.alloc (.cells (madeCells #[.int .u8 0] sz) 5)).alloc o).drew).kept hg2 hnb0
    exact this.kept (grown_setCell w2 (w.heap.size + 1) 0 _) (by simp)
  · have h1 : w.grownBy w2 none := by
      have h0 := grown_trans hgr hgW
      rcases hv : vB.ownBlock with _ | gg
      · rw [hv] at hg2; exact grown_trans h0 hg2
      · rw [hv] at hg2; exact grown_new h0 (by have := (ho.lt _ hv).1; omega) hg2
    exact grown_new h1 (by omega) (grown_setCell w2 (w.heap.size + 1) 0 _)
  · have := hg2.size
    show w.heap.size + 2 ≤ (w2.setCell _ _).heap.size
    simp only [World.setCell, Array.size_modify]
    omega

set_option maxHeartbeats 1600000 in
theorem refv_new (x y : Int) (X : Nat → Prop) (w : World) (hX : ∀ k, w.heap.size ≤ k → ¬ X k) :
    Calls Try.prog 41 #[.int .i64 x, .int .i64 y] w (RefNewPost w X (clampN x 1024) (clampN y 4096)) := by
  obtain ⟨nb, hnb⟩ : ∃ nb, clampN x 1024 = nb := ⟨_, rfl⟩
  obtain ⟨sz, hsz⟩ : ∃ sz, clampN y 4096 = sz := ⟨_, rfl⟩
  have l1 : nb ≤ 1024 := by rw [← hnb]; unfold clampN; omega
  have l2 : sz ≤ 4096 := by rw [← hsz]; unfold clampN; omega
  rw [hnb, hsz]
  have HNB := Lib.hid hnb; have HSZ := Lib.hid hsz
  clear hnb hsz
  have HX := Lib.hid hX; clear hX
  have r5 := make_bytes sz (by omega)
  go_enter Try.func41, Try.ntmps41
  go_wp2_with fail
  refine (refv_between y 4096 _).mono ?_
  rw [HSZ.out]
  rintro e w1 ⟨rfl, rfl⟩
  go_wp2_with fail
  have hB1 := Box.new (w.alloc (.cells #[.slice none 0 0, .int .i64 0] 48)) 48 [.slice none 0 0, .int .i64 sz] (w.heap.size + 1) (by simp)
  have hB0 := (Box.new w 48 [.slice none 0 0, .int .i64 0] w.heap.size rfl).alloc (.cells [.slice none 0 0, .int .i64 sz].toArray 48)
  have hgr := grown_trans (World.grownBy_alloc w (.cells [.slice none 0 0, .int .i64 0].toArray 48) none) (World.grownBy_alloc _ (.cells [.slice none 0 0, .int .i64 sz].toArray 48) none)
  go_loopw [6] (fun i wr => NewRel w nb sz i wr) (fun i _ => nb - (intOf i).toNat)
  case atStart => exact ⟨0, .slice none 0 0, [], Nat.zero_le _, rfl, OwnV.nil _ _ _, Slots.nil _ _, hB1, hB0, hgr, by simp⟩
  case round =>
    clear hB1 hB0 hgr
    obtain ⟨k, vB, xs, hk, rfl, hown, hsl, hb1, hb0, hgr, hsz⟩ := hrel
    have HO := Lib.hid hown; have HS := Lib.hid hsl; have B1 := Lib.hid hb1; have B0 := Lib.hid hb0; have HG := Lib.hid hgr
    clear hown hsl hb1 hb0 hgr
    have c0 := B1.out.cell 0 rfl
    have c1 := B1.out.cell 1 rfl
    go_wp2_with fail
    refine (refv_between x 1024 _).mono ?_
    rw [HNB.out]
    rintro e w1 ⟨rfl, rfl⟩
    by_cases hlt : k < nb
    · have hxl : xs.length = k := by rw [HS.out.1]; simp
      have HXL := Lib.hid hxl
      clear hxl
      go_wp2_with fail
      have c0a := fun o => (B1.out.alloc o).cell 0 rfl
      have c0b := fun o o' => ((B1.out.alloc o).alloc o').cell 0 rfl
      go_region_law (first
        | (refine step_append_val (by rfl) _ _ 46 23 (by rfl) Try.underlying46 (.slice none 0 0) 24 info_bytes rfl (w.heap.size + 2) vB xs (by rfl) (((HO.out.alloc _).alloc _).drew) (wr.heap.size + 1) 1 (.slice (some ⟨wr.heap.size, 0, none⟩) sz sz) (0, 0) (by rfl) (heap_new_drew _ _ _ (by simp)) rfl (by rw [HXL.out]; omega) (by rw [HXL.out]; omega) (by simp; omega) ?_; intro g2 n2 cap2 w2 hn2 ho2 hg2 hl2; have hb2 := (((B1.out.alloc _).alloc _).drew).kept hg2 (HO.out.ne (by omega)); have hb0' := (((B0.out.alloc _).alloc _).drew).kept hg2 (HO.out.ne (by omega)); have d0 := hb2.cell 0 rfl; have d1 := hb2.free 0))
      all_goals (
        have HR := Lib.hid (newRel_step hlt HO.out HS.out B1.out B0.out HG.out hsz ho2 hg2 hl2)
        clear ho2 hg2 hl2 hb2 hb0' d0 d1
        go_wp2_with fail
        go_roundw)
      case rel => exact HR.out
      case measure => simp only [intOf]; omega
      case rel => exact HR.out
      case measure => simp only [intOf]; omega
      case rel => exact HR.out
      case measure => simp only [intOf]; omega
      case rel => exact HR.out
      case measure => simp only [intOf]; omega
    · have hkn : k = nb := by omega
      subst hkn
      obtain ⟨va, vn, vc, rfl, hvn⟩ := HO.out.len
      have e2 := B0.out.cell 0 rfl
      have e3 := B0.out.cell 1 rfl
      have e4 := B0.out.free 0
      have e5 := B0.out.free 1
      have e6 := fun v => (B0.out.set 0 v).cell 1 rfl
      have e7 := fun v => (B0.out.set 0 v).free 1
      go_wp2_with fail
      have BF := (B0.out.set 0 (.slice va vn vc)).set 1 (.int .i64 sz)
      have f0 := BF.cell 0 rfl
      have f1 := BF.cell 1 rfl
      refine bodyPost_ret (v := .agg #[.slice va vn vc, .int .i64 sz]) ?_ rfl ?_
      · simp only [results]
        go_simp
      · have hgw : wr.grownBy ((wr.setCell ⟨w.heap.size, 0, none⟩ (.slice va vn vc)).setCell ⟨w.heap.size, 1, none⟩ (.int .i64 sz)) (some w.heap.size) := grown_same (grown_setCell _ _ _ _) (grown_setCell _ _ _ _)
        refine ⟨_, rfl, ⟨va, vn, vc, rfl, ?_, ?_, ?_⟩, grown_new HG.out (Nat.le_refl _) hgw⟩
        · have h1 := HS.out.1
          rw [List.length_replicate] at h1 ⊢
          omega
        · refine RVB.of_own (B := w.heap.size + 2) (xs := xs) ((HO.out.setCell (by omega) _).setCell (by omega) _) ?_ (fun k hk => HX.out k (by omega))
          refine (HS.out.kept (Kept.of_row hgw (.inl (by show w.heap.size < w.heap.size + 2; omega)))).weaken fun k hk => .inl ?_
          show k < w.heap.size + 2
          by_cases h : w.heap.size ≤ k
          · exact absurd hk (HX.out k h)
          · omega
        · intro b hb
          rw [List.eq_of_mem_replicate hb, List.length_replicate]

end Go.Proofs.Ytkemocbifancfaa
