/-
  What a disk's methods tell; blocks, bytes, drops and cuts noted.
-/
import Derived.Test.YtkemocbifancfaaDPendW
namespace Go.Proofs.Ytkemocbifancfaa
open Go.RowKit
set_option maxRecDepth 100000

theorem vol_block_any {w : World} {B g h nb sz N : Nat} {L : List UInt8} (v : VolAt w B g h nb sz N L) (i : Int) : Calls Try.prog 63 #[.pointer (some ⟨g, 0, none⟩), .int .i64 i] w (BytesPost w (blockOf nb sz i L)) := by
  by_cases hi : i < 0 ∨ (nb : Int) ≤ i
  · refine (vol_block_out v i hi).mono ?_
    rintro r w' ⟨rfl, rfl⟩
    rw [blockOf_out hi]
    exact ⟨none, 0, 0, rfl, rfl, RB.nil _ _, fun _ e => by (cases e), World.grownBy.refl _ _⟩
  · obtain ⟨j, rfl⟩ : ∃ j : Nat, i = j := ⟨i.toNat, by omega⟩
    rw [blockOf_in (by omega)]
    exact vol_block_in v j (by omega)
section
variable {w : World} {i : FId} {nb sz N s : Nat} {F : FaceV} (a o : Nat) (c0 : w.cell? ⟨a, o, none⟩ = some (.pointer (some ⟨i.gv, 0, none⟩))) (c1 : w.cell? ⟨a, o + 1, none⟩ = some (.pointer (some ⟨i.gt, 0, none⟩))) (h : FaceAt w i nb sz N s F)
include c0 h in
theorem face_block (q : Int) : Calls Try.prog 38 #[.pointer (some ⟨a, o, none⟩), .int .i64 q] w (BytesPost w (blockOf nb sz q F.L)) := by
  have HH := Lib.hid (vol_block_any h.vol q)
  obtain ⟨z, hz⟩ : ∃ z, blockOf nb sz q F.L = z := ⟨_, rfl⟩
  rw [hz] at HH ⊢
  clear h hz
  go_enter Try.func38, Try.ntmps38
  go_wp2_with fail
  refine HH.out.mono ?_
  rintro r w1 ⟨x, n, c, rfl, h1, h2, h3, h4⟩
  have HO := Lib.hid (And.intro h1 (And.intro h2 (And.intro h3 h4)))
  clear h1 h2 h3 h4
  go_wp2_with fail
  go_ret
  exact ⟨x, n, c, rfl, HO.out⟩
end
section
variable {w : World} {D : DId} {nb sz N s most : Nat} {S : FaceV} {T : List WriteV} (h : DiskAt w D nb sz N s most S T)
include h in
theorem disk_seen : Calls Try.prog 32 #[.pointer (some ⟨D.d, 0, none⟩)] w fun r w' => r = .returned (.pointer (some ⟨D.p, 0, none⟩)) ∧ w' = w := by
  have c0 := h.box.cell 0 rfl
  clear h
  go_enter Try.func32, Try.ntmps32
  go_wp2_with fail
  go_ret
  exact ⟨rfl, rfl⟩
include h in
theorem disk_pending : Calls Try.prog 16 #[.pointer (some ⟨D.d, 0, none⟩)] w fun r w' => r = .returned (.int .i64 ((T.length : Nat) : Int)) ∧ w' = w := by
  have c0 := h.box.cell 3 rfl
  obtain ⟨a, c, ht⟩ := h.todo.len
  rw [todo_len _ _ h.lens] at ht
  rw [ht] at c0
  generalize T.length = n at *
  clear h ht
  go_enter Try.func16, Try.ntmps16
  go_wp2_with fail
  go_ret
  exact ⟨rfl, rfl⟩

include h in
theorem disk_blocks : Calls Try.prog 27 #[.pointer (some ⟨D.d, 0, none⟩)] w fun r w' => r = .returned (.int .i64 (nb : Int)) ∧ w' = w := by
  have HF := Lib.hid (face_blocks D.p 0 (h.now.cell 0 rfl) h.fi)
  have HS := Lib.hid (disk_seen h)
  clear h
  go_enter Try.func27, Try.ntmps27
  go_wp2_with fail
  refine HS.out.mono ?_
  rintro r w1 ⟨rfl, rfl⟩
  go_wp2_with fail
  refine HF.out.mono ?_
  rintro r w2 ⟨rfl, rfl⟩
  go_wp2_with fail
  go_ret
  exact ⟨rfl, rfl⟩
include h in
theorem disk_size : Calls Try.prog 28 #[.pointer (some ⟨D.d, 0, none⟩)] w fun r w' => r = .returned (.int .i64 (sz : Int)) ∧ w' = w := by
  have HF := Lib.hid (face_size D.p 0 (h.now.cell 0 rfl) h.fi)
  have HS := Lib.hid (disk_seen h)
  clear h
  go_enter Try.func28, Try.ntmps28
  go_wp2_with fail
  refine HS.out.mono ?_
  rintro r w1 ⟨rfl, rfl⟩
  go_wp2_with fail
  refine HF.out.mono ?_
  rintro r w2 ⟨rfl, rfl⟩
  go_wp2_with fail
  go_ret
  exact ⟨rfl, rfl⟩
include h in
theorem disk_first (hb : (seenV nb sz s S T).f * s ≤ 9223372036854775807) : Calls Try.prog 29 #[.pointer (some ⟨D.d, 0, none⟩)] w fun r w' => r = .returned (.int .i64 (((seenV nb sz s S T).f * s : Nat) : Int)) ∧ w.grownBy w' none := by
  have HF := Lib.hid (face_first D.p 0 (h.now.cell 1 rfl) h.fi hb)
  have HS := Lib.hid (disk_seen h)
  obtain ⟨zz, hz⟩ : ∃ zz, (seenV nb sz s S T).f * s = zz := ⟨_, rfl⟩
  rw [hz] at HF ⊢
  clear hz
  clear h
  go_enter Try.func29, Try.ntmps29
  go_wp2_with fail
  refine HS.out.mono ?_
  rintro r w1 ⟨rfl, rfl⟩
  go_wp2_with fail
  refine HF.out.mono ?_
  rintro r w2 ⟨rfl, hg⟩
  have HG := Lib.hid hg
  clear hg
  go_wp2_with fail
  go_ret
  exact ⟨rfl, HG.out⟩
include h in
theorem disk_end : Calls Try.prog 30 #[.pointer (some ⟨D.d, 0, none⟩)] w fun r w' => r = .returned (.int .i64 (((seenV nb sz s S T).f * s + (seenV nb sz s S T).l.length : Nat) : Int)) ∧ w' = w := by
  have HF := Lib.hid (face_end D.p 0 (h.now.cell 1 rfl) h.fi)
  have HS := Lib.hid (disk_seen h)
  obtain ⟨zz, hz⟩ : ∃ zz, (seenV nb sz s S T).f * s + (seenV nb sz s S T).l.length = zz := ⟨_, rfl⟩
  rw [hz] at HF ⊢
  clear hz
  clear h
  go_enter Try.func30, Try.ntmps30
  go_wp2_with fail
  refine HS.out.mono ?_
  rintro r w1 ⟨rfl, rfl⟩
  go_wp2_with fail
  refine HF.out.mono ?_
  rintro r w2 ⟨rfl, rfl⟩
  go_wp2_with fail
  go_ret
  exact ⟨rfl, rfl⟩
include h in
theorem disk_segs : Calls Try.prog 31 #[.pointer (some ⟨D.d, 0, none⟩)] w fun r w' => r = .returned (.int .i64 ((nSeg s (seenV nb sz s S T).l.length : Nat) : Int)) ∧ w' = w := by
  have HF := Lib.hid (face_segs D.p 0 (h.now.cell 1 rfl) h.fi)
  have HS := Lib.hid (disk_seen h)
  obtain ⟨zz, hz⟩ : ∃ zz, nSeg s (seenV nb sz s S T).l.length = zz := ⟨_, rfl⟩
  rw [hz] at HF ⊢
  clear hz
  clear h
  go_enter Try.func31, Try.ntmps31
  go_wp2_with fail
  refine HS.out.mono ?_
  rintro r w1 ⟨rfl, rfl⟩
  go_wp2_with fail
  refine HF.out.mono ?_
  rintro r w2 ⟨rfl, rfl⟩
  go_wp2_with fail
  go_ret
  exact ⟨rfl, rfl⟩
include h in
theorem disk_bytes (x : Int) (hb : (seenV nb sz s S T).f * s + (seenV nb sz s S T).l.length ≤ 1099511627776) (hx : -9223372036854775808 ≤ x) : Calls Try.prog 12 #[.pointer (some ⟨D.d, 0, none⟩), .int .i64 x] w (TapeBytesPost w (bytesF s (seenV nb sz s S T).f (seenV nb sz s S T).l x)) := by
  have HF := Lib.hid (face_bytes D.p 0 (h.now.cell 1 rfl) h.fi x hb hx)
  have HS := Lib.hid (disk_seen h)
  obtain ⟨zz, hz⟩ : ∃ zz, bytesF s (seenV nb sz s S T).f (seenV nb sz s S T).l x = zz := ⟨_, rfl⟩
  rw [hz] at HF ⊢
  clear hz
  clear h
  go_enter Try.func12, Try.ntmps12
  go_wp2_with fail
  refine HS.out.mono ?_
  rintro r w1 ⟨rfl, rfl⟩
  go_wp2_with fail
  refine HF.out.mono ?_
  rintro r w2 ⟨v, rfl, ho, hg⟩
  have HO := Lib.hid ho; have HG := Lib.hid hg
  clear ho hg
  go_wp2_with fail
  go_ret
  exact ⟨v, rfl, HO.out, HG.out⟩
include h in
theorem disk_block (x : Int) : Calls Try.prog 19 #[.pointer (some ⟨D.d, 0, none⟩), .int .i64 x] w (BytesPost w (blockOf nb sz x (seenV nb sz s S T).L)) := by
  have HF := Lib.hid (face_block D.p 0 (h.now.cell 0 rfl) h.fi x)
  have HS := Lib.hid (disk_seen h)
  obtain ⟨zz, hz⟩ : ∃ zz, blockOf nb sz x (seenV nb sz s S T).L = zz := ⟨_, rfl⟩
  rw [hz] at HF ⊢
  clear hz
  clear h
  go_enter Try.func19, Try.ntmps19
  go_wp2_with fail
  refine HS.out.mono ?_
  rintro r w1 ⟨rfl, rfl⟩
  go_wp2_with fail
  refine HF.out.mono ?_
  rintro r w2 ⟨x1, n, c, rfl, h1, h2, h3, h4⟩
  have HO := Lib.hid (And.intro h1 (And.intro h2 (And.intro h3 h4)))
  clear h1 h2 h3 h4
  go_wp2_with fail
  go_ret
  exact ⟨x1, n, c, rfl, HO.out⟩
/-- what 'Put' answers -/
def putE (nb sz : Nat) (i : Int) (n : Nat) : Int := if i < 0 ∨ (nb : Int) ≤ i then 1 else if sz < n then 7 else 0
def putT (nb sz : Nat) (i : Int) (b : List UInt8) (T : List WriteV) : List WriteV := if putE nb sz i b.length = 0 then T ++ [⟨0, i, b, 0⟩] else T
set_option maxHeartbeats 1600000 in
include h in
theorem disk_put (q : Int) (xa : Option Addr) (xn xc : Nat) (b : List UInt8) (hx : InB w xa xn xc b) (hxn : xn ≤ 1000000) (hT : T.length ≤ 1000) (hbig : (seenV nb sz s S T).f * s + (seenV nb sz s S T).l.length + xn ≤ 1099511627776) :
    Calls Try.prog 18 #[.pointer (some ⟨D.d, 0, none⟩), .int .i64 q, .slice xa xn xc] w (OpPost w D nb sz N s most S (putT nb sz q b T) (.int .i64 (putE nb sz q b.length))) := by
  have HB := Lib.hid (disk_blocks h)
  have HS := Lib.hid (disk_size h)
  have HI := Lib.hid (fun v => OpPost.idle (v := v) h (World.grownBy.refl w none))
  have HP := Lib.hid (disk_pend D nb sz N s most S T ⟨0, q, b, 0⟩ xa xn xc w h hx hxn (by simp only; omega) hT hbig)
  have hl := hx.len_eq
  obtain ⟨e, he⟩ : ∃ e, putE nb sz q b.length = e := ⟨_, rfl⟩
  obtain ⟨T', hT'⟩ : ∃ T', putT nb sz q b T = T' := ⟨_, rfl⟩
  have HE := Lib.hid (fun _ : True => And.intro he hT')
  rw [he, hT']
  clear h hx hxn hT hbig he hT'
  by_cases h1 : q < 0 ∨ (nb : Int) ≤ q
  · have HQ := Lib.hid (fun _ : True => show e = 1 ∧ T' = T by
      obtain ⟨e1, e2⟩ := HE.out trivial
      have e3 : putE nb sz q b.length = 1 := if_pos h1
      refine ⟨by rw [← e1, e3], ?_⟩
      rw [← e2]
      exact if_neg (by rw [e3]; decide))
    by_cases h0 : q < 0
    · go_enter Try.func18, Try.ntmps18
      go_wp2_with fail
      go_ret
      obtain ⟨e1, e2⟩ := HQ.out trivial
      rw [e1, e2]
      exact HI.out _
    · have h2 : q ≥ (nb : Int) := by omega
      go_enter Try.func18, Try.ntmps18
      go_wp2_with fail
      refine HB.out.mono ?_
      rintro r w1 ⟨rfl, rfl⟩
      go_wp2_with fail
      go_ret
      obtain ⟨e1, e2⟩ := HQ.out trivial
      rw [e1, e2]
      exact HI.out _
  · have h0 : ¬ q < 0 := by omega
    have h2 : ¬ q ≥ (nb : Int) := by omega
    by_cases h3 : (xn : Int) > (sz : Int)
    · have HQ := Lib.hid (fun _ : True => show e = 7 ∧ T' = T by
        obtain ⟨e1, e2⟩ := HE.out trivial
        have e3 : putE nb sz q b.length = 7 := (if_neg h1).trans (if_pos (by omega))
        refine ⟨by rw [← e1, e3], ?_⟩
        rw [← e2]
        exact if_neg (by rw [e3]; decide))
      clear h1
      go_enter Try.func18, Try.ntmps18
      go_wp2_with fail
      refine HB.out.mono ?_
      rintro r w1 ⟨rfl, rfl⟩
      go_wp2_with fail
      refine HS.out.mono ?_
      rintro r w1 ⟨rfl, rfl⟩
      go_wp2_with fail
      go_ret
      obtain ⟨e1, e2⟩ := HQ.out trivial
      rw [e1, e2]
      exact HI.out _
    · have HQ := Lib.hid (fun _ : True => show e = 0 ∧ T' = T ++ [⟨0, q, b, 0⟩] by
        obtain ⟨e1, e2⟩ := HE.out trivial
        have e3 : putE nb sz q b.length = 0 := (if_neg h1).trans (if_neg (by omega))
        refine ⟨by rw [← e1, e3], ?_⟩
        rw [← e2]
        exact if_pos e3)
      clear h1
      go_enter Try.func18, Try.ntmps18
      go_wp2_with fail
      refine HB.out.mono ?_
      rintro r w1 ⟨rfl, rfl⟩
      go_wp2_with fail
      refine HS.out.mono ?_
      rintro r w1 ⟨rfl, rfl⟩
      go_wp2_with fail
      refine HP.out.mono ?_
      rintro r w1 hp
      obtain ⟨rfl, hp2⟩ := id hp
      have HP2 := Lib.hid hp
      clear hp hp2
      go_wp2_with fail
      go_ret
      obtain ⟨e1, e2⟩ := HQ.out trivial
      rw [e1, e2]
      exact OpPost.re (World.grownBy.refl _ _) HP2.out

set_option maxHeartbeats 1600000 in
include h in
theorem disk_drop (x : Int) (hx : -9223372036854775808 ≤ x) (hT : T.length ≤ 1000) (hbig : (seenV nb sz s S T).f * s + (seenV nb sz s S T).l.length ≤ 1099511627776) :
    Calls Try.prog 25 #[.pointer (some ⟨D.d, 0, none⟩), .int .i64 x] w (OpPost w D nb sz N s most S (T ++ [⟨2, 0, [], x⟩]) (.tuple #[])) := by
  have HS := Lib.hid (disk_seen h)
  have HP := Lib.hid (disk_pend D nb sz N s most S T ⟨2, 0, [], x⟩ none 0 0 w h ⟨rfl, Nat.le_refl _, Nat.zero_le _, fun _ => rfl, RB.nil _ _⟩ (by omega) hx hT hbig)
  clear h hT hbig
  go_enter Try.func25, Try.ntmps25
  go_wp2_with fail
  refine HS.out.mono ?_
  rintro r w1 ⟨rfl, rfl⟩
  go_wp2_with fail
  refine HP.out.mono ?_
  rintro r w1 hp
  obtain ⟨rfl, hp2⟩ := id hp
  have HP2 := Lib.hid hp
  clear hp hp2
  go_wp2_with fail
  go_end0
  exact HP2.out
set_option maxHeartbeats 1600000 in
include h in
theorem disk_cut (x : Int) (hx : -9223372036854775808 ≤ x) (hT : T.length ≤ 1000) (hbig : (seenV nb sz s S T).f * s + (seenV nb sz s S T).l.length ≤ 1099511627776) :
    Calls Try.prog 26 #[.pointer (some ⟨D.d, 0, none⟩), .int .i64 x] w (OpPost w D nb sz N s most S (T ++ [⟨3, 0, [], x⟩]) (.tuple #[])) := by
  have HS := Lib.hid (disk_seen h)
  have HP := Lib.hid (disk_pend D nb sz N s most S T ⟨3, 0, [], x⟩ none 0 0 w h ⟨rfl, Nat.le_refl _, Nat.zero_le _, fun _ => rfl, RB.nil _ _⟩ (by omega) hx hT hbig)
  clear h hT hbig
  go_enter Try.func26, Try.ntmps26
  go_wp2_with fail
  refine HS.out.mono ?_
  rintro r w1 ⟨rfl, rfl⟩
  go_wp2_with fail
  refine HP.out.mono ?_
  rintro r w1 hp
  obtain ⟨rfl, hp2⟩ := id hp
  have HP2 := Lib.hid hp
  clear hp hp2
  go_wp2_with fail
  go_end0
  exact HP2.out
end

end Go.Proofs.Ytkemocbifancfaa
