/-
  A new disk; a disk's copy.
-/
import Derived.Test.YtkemocbifancfaaDCrashW
namespace Go.Proofs.Ytkemocbifancfaa
open Go.RowKit
set_option maxRecDepth 100000

def NewDPost (w : World) (nb sz s most : Nat) (r : Ending) (w' : World) : Prop :=
  ∃ (D : DId) (N : Nat), r = .returned (.pointer (some ⟨D.d, 0, none⟩)) ∧ DiskAt w' D nb sz N s most ⟨List.replicate N 0, 0, []⟩ [] ∧ (∀ k, DY D k → w.heap.size ≤ k) ∧ D.loc = [] ∧ w.grownBy w' none
/-- a disk made of two faces, of which the second one is the first one's copy -/
theorem DiskAt.made {w2 w3 w4 w5 : World} {i j : FId} {nb sz N s most p d : Nat} {S : FaceV} {T : List WriteV} {tv : Value} {loc : List Loc} {b : Nat} (hj : FaceAt w2 j nb sz N s S) (hjb : ∀ k, FX j k → b ≤ k) (hi : FaceAt w3 i nb sz N s (seenV nb sz s S T)) (hib : ∀ k, FX i k → b ≤ k) (hij : ∀ k, FX i k → ¬ FX j k) (hg3 : w2.grownBy w5 none) (hg4 : w3.grownBy w5 none)
    (hp : Box w5 p 68 [.pointer (some ⟨i.gv, 0, none⟩), .pointer (some ⟨i.gt, 0, none⟩)]) (hpi : ¬ FX i p ∧ ¬ FX j p ∧ b ≤ p)
    (ht : OwnR w4 0 74 4 tv (todoCells T loc)) (hg : w4.grownBy w5 none) (htb : ∀ k, tv.ownBlock = some k → b ≤ k ∧ k ≠ p ∧ k ≠ d ∧ ¬ FX i k ∧ ¬ FX j k)
    (hd : Box w5 d 71 [.pointer (some ⟨p, 0, none⟩), .pointer (some ⟨j.gv, 0, none⟩), .pointer (some ⟨j.gt, 0, none⟩), tv, .int .i64 (most : Int)]) (hdi : ¬ FX i d ∧ ¬ FX j d ∧ d ≠ p ∧ b ≤ d)
    (hl : loc.length = T.length) (hlo : ∀ q (h : q < T.length) (h' : q < loc.length), InB w5 (loc[q]).1 (loc[q]).2.1 (loc[q]).2.2 (T[q]).b ∧ -9223372036854775808 ≤ (T[q]).n) (hlb : ∀ x ∈ loc, ∀ ad : Addr, x.1 = some ad → ad.block < b) (hb5 : b ≤ w5.heap.size) :
    DiskAt w5 ⟨d, p, i, j, tv, loc⟩ nb sz N s most S T ∧ ∀ k, DY ⟨d, p, i, j, tv, loc⟩ k → b ≤ k := by
  have hY : ∀ k, DY ⟨d, p, i, j, tv, loc⟩ k → b ≤ k := fun k hk => by
    rcases hk with e | e | e | e | e
    · have e' : k = d := e
      omega
    · have e' : k = p := e
      omega
    · exact hib k e
    · exact hjb k e
    · exact (htb k e).1
  refine ⟨⟨hd, hp, hi.grown hg4, hj.grown hg3, ht.grown hg, hl, fun q h1 h2 => ⟨(hlo q h1 h2).1, RX.of_rb (hlo q h1 h2).1.reads (fun ad e _ hk => ?_), (hlo q h1 h2).2⟩, ⟨hdi.2.2.1, hdi.1, hpi.1, hdi.2.1, hpi.2.1⟩, hij, fun k e => ⟨(htb k e).2.2.1, (htb k e).2.1, (htb k e).2.2.2.1, (htb k e).2.2.2.2⟩, fun k hk => ?_, fun k hk hy => ?_⟩, hY⟩
  · have h3 := hY _ hk
    have h4 := hlb _ (List.getElem_mem h2) ad e
    omega
  · obtain ⟨x, hx, ad, e1, e2⟩ := hk
    have h4 := hlb x hx ad e1
    omega
  · obtain ⟨x, hx, ad, e1, e2⟩ := hk
    have h4 := hlb x hx ad e1
    have h5 := hY k hy
    omega
set_option maxHeartbeats 3200000 in
theorem disk_new (x y z m : Int) (w : World) : Calls Try.prog 20 #[.int .i64 x, .int .i64 y, .int .i64 z, .int .i64 m] w (NewDPost w (clampN x 1024) (clampN y 4096) (clampS z) (clampN m 1048576)) := by
  have m1 := max_nat m m.toNat rfl
  have m2 := min_nat m.toNat 1048576 (clampN m 1048576) (by unfold clampN; omega) (by omega)
  have HV := Lib.hid (vol_new x y w)
  have HT := Lib.hid (fun u => tape_new z u)
  obtain ⟨nb, hnb⟩ : ∃ nb, clampN x 1024 = nb := ⟨_, rfl⟩
  obtain ⟨sz, hsz⟩ : ∃ sz, clampN y 4096 = sz := ⟨_, rfl⟩
  obtain ⟨s, hs⟩ : ∃ s, clampS z = s := ⟨_, rfl⟩
  obtain ⟨most, hmost⟩ : ∃ most, clampN m 1048576 = most := ⟨_, rfl⟩
  obtain ⟨mm, hmm⟩ : ∃ mm, m.toNat = mm := ⟨_, rfl⟩
  rw [hnb, hsz] at HV
  rw [hs] at HT
  rw [hmm] at m1 m2
  rw [hmost] at m2
  rw [hnb, hsz, hs, hmost]
  clear hnb hsz hs hmost hmm
  go_enter Try.func20, Try.ntmps20
  go_wp2_with fail
  refine HV.out.mono ?_
  rintro r w1 ⟨gv, h, N, rfl, hv, hg1⟩
  have HVA := Lib.hid hv; have HG1 := Lib.hid hg1
  clear hv hg1
  go_wp2_with fail
  refine (HT.out w1).mono ?_
  rintro r w2 ⟨rfl, ht, hg2⟩
  have hsz1 := HG1.out.size
  have hlt2 := ht.box.lt
  have hf := face_both (F := ⟨List.replicate N 0, 0, []⟩) (HVA.out.mul) HVA.out hsz1 hg2 ht (by omega) (Nat.le_refl _) (by omega) (fun v hv => by cases hv)
  have HF := Lib.hid hf.1; have HFB := Lib.hid hf.2
  obtain ⟨gt, hgt⟩ : ∃ gt, w1.heap.size + 1 = gt := ⟨_, rfl⟩
  rw [hgt] at HF HFB
  rw [hgt]
  have HG2 := Lib.hid (grown_trans HG1.out hg2)
  have hga := World.grownBy_alloc w2 (.cells #[.pointer (some ⟨gv, 0, none⟩), .pointer (some ⟨gt, 0, none⟩)] 68) none
  have hbx := Box.new w2 68 [.pointer (some ⟨gv, 0, none⟩), .pointer (some ⟨gt, 0, none⟩)] w2.heap.size rfl
  have HCP := Lib.hid (face_copy (i := ⟨gv, h, gt, w1.heap.size, w1.heap.size + 2, []⟩) w2.heap.size 0 (hbx.cell 0 rfl) (hbx.cell 1 rfl) (HF.out.grown hga))
  have HBX := Lib.hid hbx; have HGA := Lib.hid hga
  clear ht hg2 hlt2 hf hgt hga hbx hsz1
  go_wp2_with fail
  refine HCP.out.mono ?_
  rintro r w3 ⟨i, rfl, hi, hin, hg3⟩
  have hsa : (w2.alloc (.cells #[.pointer (some ⟨gv, 0, none⟩), .pointer (some ⟨gt, 0, none⟩)] 68)).heap.size = w2.heap.size + 1 := by simp
  rw [hsa] at hin
  have hb3 := (HBX.out.grown hg3).alloc (.cells #[.pointer (some ⟨i.gv, 0, none⟩), .pointer (some ⟨i.gt, 0, none⟩)] 68)
  have l3 := hb3.look
  have hga3 := World.grownBy_alloc w3 (.cells #[.pointer (some ⟨i.gv, 0, none⟩), .pointer (some ⟨i.gt, 0, none⟩)] 68) none
  have hp3 := Box.new w3 68 [.pointer (some ⟨i.gv, 0, none⟩), .pointer (some ⟨i.gt, 0, none⟩)] w3.heap.size rfl
  have hz3 := hg3.size
  have hz2 := HG2.out.size
  have HP3 := Lib.hid hp3; have HGA3 := Lib.hid hga3; have HI := Lib.hid hi; have HIN := Lib.hid hin
  have HZ := Lib.hid (show w.heap.size ≤ w2.heap.size ∧ w2.heap.size + 1 ≤ w3.heap.size by rw [hsa] at hz3; exact ⟨hz2, hz3⟩)
  have HG3 := Lib.hid (grown_trans HGA.out hg3)
  clear hi hin hg3 hsa hb3 hga3 hp3 hz3 hz2
  go_wp2_with fail
  go_ret
  have hz := HZ.out
  have hfl := HF.out.low
  have hil := HI.out.low
  have hin := HIN.out
  have hgb := World.grownBy_alloc (w3.alloc (.cells #[.pointer (some ⟨i.gv, 0, none⟩), .pointer (some ⟨i.gt, 0, none⟩)] 68)) (.cells #[.pointer (some ⟨w3.heap.size, 0, none⟩), .pointer (some ⟨gv, 0, none⟩), .pointer (some ⟨gt, 0, none⟩), .slice none 0 0, .int .i64 (most : Int)] 71) none
  have hs4 : (w3.alloc (.cells #[.pointer (some ⟨i.gv, 0, none⟩), .pointer (some ⟨i.gt, 0, none⟩)] 68)).heap.size = w3.heap.size + 1 := by simp
  have hdb := Box.new (w3.alloc (.cells #[.pointer (some ⟨i.gv, 0, none⟩), .pointer (some ⟨i.gt, 0, none⟩)] 68)) 71 [.pointer (some ⟨w3.heap.size, 0, none⟩), .pointer (some ⟨gv, 0, none⟩), .pointer (some ⟨gt, 0, none⟩), .slice none 0 0, .int .i64 (most : Int)] (w3.heap.size + 1) (by simp)
  have hm := DiskAt.made (b := w.heap.size) (T := []) (loc := []) (tv := .slice none 0 0) (most := most) (p := w3.heap.size) (d := w3.heap.size + 1) HF.out HFB.out HI.out (fun k hk => by have := hin k hk; omega) (fun k h1 h2 => by have := hin k h1; have := hfl k h2; omega) (grown_trans (grown_trans HG3.out HGA3.out) hgb) (grown_trans HGA3.out hgb)
    (HP3.out.grown hgb) ⟨fun e => by have := hil _ e; omega, fun e => by have := hfl _ e; omega, by omega⟩ (OwnR.nil w3 _ _ _) (grown_trans HGA3.out hgb) (fun k e => by simp [Value.ownBlock] at e) hdb ⟨fun e => by have := hil _ e; omega, fun e => by have := hfl _ e; omega, by omega, by omega⟩ rfl (fun q h1 => absurd h1 (by simp)) (fun x hx => by cases hx) (by have := hgb.size; omega)
  exact ⟨_, N, rfl, hm.1, hm.2, rfl, grown_trans HG2.out (grown_trans (grown_trans HG3.out HGA3.out) hgb)⟩

end Go.Proofs.Ytkemocbifancfaa
