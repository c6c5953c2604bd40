/-
  The chapter's example.
-/
import Derived.Test.YtkemocbifancfaaDNew
namespace Go.Proofs.Ytkemocbifancfaa
open Go.RowKit
set_option maxRecDepth 100000

/-- a disk that was made behind w0 -/
structure Live (w0 w : World) (D : DId) (nb sz N s most : Nat) (S : FaceV) (T : List WriteV) : Prop where
  disk : DiskAt w D nb sz N s most S T
  lo : ∀ k, DY D k → w0.heap.size ≤ k
  grown : w0.grownBy w none
theorem Live.later {w0 w w' : World} {D : DId} {nb sz N s most : Nat} {S : FaceV} {T : List WriteV} (h : Live w0 w D nb sz N s most S T) (hg : w.grownBy w' none) : Live w0 w' D nb sz N s most S T :=
  ⟨h.disk.grown hg, h.lo, grown_trans h.grown hg⟩
theorem Live.op {w0 w w' : World} {D : DId} {nb sz N s most : Nat} {S S' : FaceV} {T T' : List WriteV} {v : Value} {r : Ending} (h : Live w0 w D nb sz N s most S T) (hp : OpPost w D nb sz N s most S' T' v r w') : r = .returned v ∧ ∃ D', Live w0 w' D' nb sz N s most S' T' ∧ D'.d = D.d := by
  obtain ⟨e, D', h1, h2, h3, h4, h5⟩ := hp
  have hz := h.grown.size
  refine ⟨e, D', ⟨h1, fun k hk => ?_, ?_⟩, h2⟩
  · rcases h4 k hk with e | e
    · exact h.lo k e
    · omega
  · have hk := (Kept.of_grown h.grown (X := fun k => w0.heap.size ≤ k)).trans (h5.more h.lo)
    exact ⟨hk.os, hk.tape, hk.output, hk.size, fun q hq _ => hk.block q hq (by omega)⟩
theorem Live.made {w w' : World} {nb sz s most : Nat} {r : Ending} (h : NewDPost w nb sz s most r w') : ∃ (D : DId) (N : Nat), r = .returned (.pointer (some ⟨D.d, 0, none⟩)) ∧ Live w w' D nb sz N s most ⟨List.replicate N 0, 0, []⟩ [] := by
  obtain ⟨D, N, e, h1, h2, _, h3⟩ := h
  exact ⟨D, N, e, h1, h2, h3⟩
theorem inb_const (w : World) (l : List UInt8) (fr : Nat × Nat) (hl : l.length ≤ 1000) (n : Nat) (hn : n = w.heap.size) : InB (w.alloc (.cells (l.map bval).toArray 5 fr)) (some ⟨n, 0, none⟩) l.length l.length l :=
  ⟨rfl, Nat.le_refl _, by unfold maxLen; omega, fun h => (by cases h), RB.const w _ 5 fr l n hn rfl⟩
theorem doV_app (nb sz s : Nat) (L : List UInt8) (f : Nat) (l b : List UInt8) : doV nb sz s ⟨L, f, l⟩ ⟨1, 0, b, 0⟩ false 0 = ⟨L, f, l ++ b⟩ := by simp [doV, tornB]
theorem doV_appT (nb sz s : Nat) (L : List UInt8) (f : Nat) (l b : List UInt8) (n : Int) : doV nb sz s ⟨L, f, l⟩ ⟨1, 0, b, 0⟩ true n = ⟨L, f, l ++ b.take n.toNat⟩ := by simp [doV, tornB]
set_option maxHeartbeats 3200000 in
theorem disk_works (w : World) : Calls Try.prog 9 #[] w fun r w' => r = .returned (.bool true) ∧ w.grownBy w' none := by
  have kc := fun (w : World) (C : Array Value) (n c g : Nat) (hg : g = w.heap.size) => Joins.run_convert_bytes_const_at (P := Try.prog) w 23 5 C n c g hg Try.underlying23 Try.underlying5
  have HN := Lib.hid (disk_new 1 8 64 100 w)
  rw [show clampN 1 1024 = 1 from rfl, show clampN 8 4096 = 8 from rfl, show clampS 64 = 64 from rfl, show clampN 100 1048576 = 100 from rfl] at HN
  obtain ⟨s, hs⟩ : ∃ s, (64 : Nat) = s := ⟨_, rfl⟩
  rw [hs] at HN
  clear hs
  go_enter Try.func9, Try.ntmps9
  go_wp2_with fail
  refine HN.out.mono ?_
  rintro r w1 hp
  obtain ⟨D, N, rfl, hl⟩ := Live.made hp
  obtain ⟨L, hL⟩ : ∃ L, List.replicate N (0 : UInt8) = L := ⟨_, rfl⟩
  rw [hL] at hl
  have HL1 := Lib.hid hl
  clear hp hl hL HN
  go_wp2_with fail
  have hga := World.grownBy_alloc w1 (.cells #[.int .u8 97, .int .u8 98] 5 (2, 2 + 1)) none
  have hl := HL1.out.later hga
  have hc := disk_append hl.disk _ 2 2 [97, 98] (inb_const w1 [97, 98] (2, 2 + 1) (by decide) w1.heap.size rfl) (by omega) (by simp) (by omega) (by rw [show seenV 1 8 s ⟨L, 0, []⟩ [] = ⟨L, 0, []⟩ from rfl]; simp)
  rw [show seenV 1 8 s ⟨L, 0, []⟩ [] = ⟨L, 0, []⟩ from rfl] at hc
  have HC := Lib.hid (show Calls _ _ _ _ (OpPost _ _ _ _ _ _ _ _ ([⟨1, 0, [97, 98], 0⟩]) (.int .i64 0)) from hc)
  have HL := Lib.hid hl
  clear hga hl hc
  refine HC.out.mono ?_
  rintro r w2 hp
  obtain ⟨rfl, D2, hl, e1⟩ := HL.out.op hp
  have HL2 := Lib.hid hl
  have HE2 := Lib.hid (fun _ : True => e1)
  clear hp hl e1 HC HL HL1
  go_wp2_with fail
  have hc := disk_sync HL2.out.disk (by simp) (by simp [endV, totB])
  rw [show seenV 1 8 s ⟨L, 0, []⟩ [⟨1, 0, [97, 98], 0⟩] = ⟨L, 0, [97, 98]⟩ from doV_app 1 8 s L 0 [] [97, 98], HE2.out trivial] at hc
  refine hc.mono ?_
  rintro r w3 hp
  obtain ⟨rfl, D3, hl, e2⟩ := HL2.out.op hp
  have HL3 := Lib.hid hl
  have HE3 := Lib.hid (fun _ : True => e2.trans (HE2.out trivial))
  clear hp hl e2 HL2 hc
  go_wp2_with fail
  have hga := World.grownBy_alloc w3 (.cells #[.int .u8 99, .int .u8 100] 5 (2, 2 + 1)) none
  have hl := HL3.out.later hga
  have hc := disk_append hl.disk _ 2 2 [99, 100] (inb_const w3 [99, 100] (2, 2 + 1) (by decide) w3.heap.size rfl) (by omega) (by simp) (by omega) (by rw [show seenV 1 8 s ⟨L, 0, [97, 98]⟩ [] = ⟨L, 0, [97, 98]⟩ from rfl]; simp)
  rw [show seenV 1 8 s ⟨L, 0, [97, 98]⟩ [] = ⟨L, 0, [97, 98]⟩ from rfl] at hc
  have HC := Lib.hid (show Calls _ _ _ _ (OpPost _ _ _ _ _ _ _ _ ([⟨1, 0, [99, 100], 0⟩]) (.int .i64 0)) from hc)
  have HL := Lib.hid hl
  clear hga hl hc
  rw [HE3.out trivial] at HC
  refine HC.out.mono ?_
  rintro r w4 hp
  obtain ⟨rfl, D4, hl, e3⟩ := HL.out.op hp
  have HL4 := Lib.hid hl
  have HE4 := Lib.hid (fun _ : True => e3.trans (HE3.out trivial))
  clear hp hl e3 HC HL HL3
  go_wp2_with fail
  have hga := World.grownBy_alloc w4 (.cells #[.int .u8 101, .int .u8 102] 5 (2, 2 + 1)) none
  have hl := HL4.out.later hga
  have hc := disk_append hl.disk _ 2 2 [101, 102] (inb_const w4 [101, 102] (2, 2 + 1) (by decide) w4.heap.size rfl) (by omega) (by simp) (by omega) (by rw [show seenV 1 8 s ⟨L, 0, [97, 98]⟩ [⟨1, 0, [99, 100], 0⟩] = ⟨L, 0, [97, 98, 99, 100]⟩ from doV_app 1 8 s L 0 [97, 98] [99, 100]]; simp)
  rw [show seenV 1 8 s ⟨L, 0, [97, 98]⟩ [⟨1, 0, [99, 100], 0⟩] = ⟨L, 0, [97, 98, 99, 100]⟩ from doV_app 1 8 s L 0 [97, 98] [99, 100]] at hc
  have HC := Lib.hid (show Calls _ _ _ _ (OpPost _ _ _ _ _ _ _ _ ([⟨1, 0, [99, 100], 0⟩, ⟨1, 0, [101, 102], 0⟩]) (.int .i64 0)) from hc)
  have HL := Lib.hid hl
  clear hga hl hc
  rw [HE4.out trivial] at HC
  refine HC.out.mono ?_
  rintro r w5 hp
  obtain ⟨rfl, D5, hl, e4⟩ := HL.out.op hp
  have HL5 := Lib.hid hl
  have HE5 := Lib.hid (fun _ : True => e4.trans (HE4.out trivial))
  clear hp hl e4 HC HL HL4
  go_wp2_with fail
  have hc := disk_pending HL5.out.disk
  rw [HE5.out trivial] at hc
  refine hc.mono ?_
  rintro r w6 ⟨rfl, rfl⟩
  clear hc
  go_wp2_with fail
  have hc := disk_crash D5 1 8 N s 100 ⟨L, 0, [97, 98]⟩ [⟨1, 0, [99, 100], 0⟩, ⟨1, 0, [101, 102], 0⟩] 1 1 w6 HL5.out.disk (by simp) (by simp [endV, totB])
  have ec : crashV 1 8 s ⟨L, 0, [97, 98]⟩ [⟨1, 0, [99, 100], 0⟩, ⟨1, 0, [101, 102], 0⟩] 1 1 = ⟨L, 0, [97, 98, 99, 100, 101]⟩ := by
    show doV 1 8 s (doV 1 8 s ⟨L, 0, [97, 98]⟩ ⟨1, 0, [99, 100], 0⟩ false 0) ⟨1, 0, [101, 102], 0⟩ true 1 = _
    rw [doV_app, doV_appT]
    rfl
  rw [ec, HE5.out trivial] at hc
  refine hc.mono ?_
  rintro r w7 hp
  obtain ⟨rfl, D7, hl, e5⟩ := HL5.out.op hp
  have HL7 := Lib.hid hl
  have HE7 := Lib.hid (fun _ : True => e5.trans (HE5.out trivial))
  clear hp hl e5 HL5 hc ec
  go_wp2_with fail
  have hc := disk_bytes HL7.out.disk 0 (by simp [seenV]) (by omega)
  have eb : bytesF s (seenV 1 8 s ⟨L, 0, [97, 98, 99, 100, 101]⟩ []).f (seenV 1 8 s ⟨L, 0, [97, 98, 99, 100, 101]⟩ []).l 0 = [97, 98, 99, 100, 101] := by
    show bytesF s 0 [97, 98, 99, 100, 101] 0 = _
    unfold bytesF fromQ
    rw [Nat.zero_mul]
    rfl
  rw [eb, HE7.out trivial] at hc
  refine hc.mono ?_
  rintro r w8 ⟨v, rfl, ho, hg8⟩
  obtain ⟨va, vn, vc, rfl, hvn⟩ := ho.len
  have hst := string_bytes va vn vc _ w8 (RB.of_own ho) hvn
  rw [show strB [97, 98, 99, 100, 101] = ⟨#[97, 98, 99, 100, 101]⟩ from rfl] at hst
  have HL8 := Lib.hid (HL7.out.later hg8)
  clear hc ho hvn hg8 HL7 eb
  go_wp2_with fail
  have hc := disk_pending HL8.out.disk
  rw [HE7.out trivial] at hc
  refine hc.mono ?_
  rintro r w9 ⟨rfl, rfl⟩
  clear hc hst
  go_wp2_with fail
  go_ret
  exact ⟨rfl, HL8.out.grown⟩

end Go.Proofs.Ytkemocbifancfaa
