/-
  'same' of the laws of volumes.
-/
import Derived.Test.YtnikeceeclfnpaaVolRef
import Derived.StillTailTactics
import Derived.Deep.QuietTactic
import Derived.BigQuiet
import Derived.Deep.RegionHeldLaw
namespace Go.Proofs.Ytnikeceeclfnpaa
open Go.RowKit

theorem quiet_here {f : FuncId} {args : Array Value} {w : World} {n : Nat} {v : Value}
    (h : Calls Try.prog f args (w.drewN n) fun e w' => e = .returned v ∧ w.drewN n = w') : Calls Try.prog f args (w.drewN n) fun e w'' => e = .returned v ∧ ∃ m, w'' = w.drewN m :=
  h.mono fun _ _ ⟨he, hm⟩ => ⟨he, n, hm.symm⟩
theorem grown_drewN (w : World) (n : Nat) : w.grownBy (w.drewN n) none := ⟨rfl, rfl, rfl, Nat.le_refl _, fun _ _ _ => rfl⟩

theorem grown_cell {w w' : World} {a : Addr} {v : Value} (h : w.grownBy w' none) (hc : w.cell? a = some v) : w'.cell? a = some v :=
  (World.cell?_of_block (h.block a.block (World.block_lt_of_cell? w _ hc) (by simp))).trans hc

theorem RVB.at {w : World} {X : Nat → Prop} {a : Option Addr} {bs : List (List UInt8)} (h : RVB w X a bs) (i : Nat) (hi : i < bs.length) :
    ∃ b o, a = some ⟨b, o, none⟩ ∧ ∃ a' n c, w.cell? ⟨b, o + i, none⟩ = some (.slice a' n c) ∧ bs[i].length = n ∧ RB w a' bs[i] := by
  obtain ⟨b, o, e, _, a', n, c, h1, h2, h3⟩ := h i hi
  exact ⟨b, o, e, a', n, c, h1, h2, h3.rb⟩

set_option maxHeartbeats 1600000 in
theorem vol_same {w : World} {B g h nb sz N : Nat} {L : List UInt8} (v : VolAt w B g h nb sz N L) (X : Nat → Prop) {bs : List (List UInt8)} {V : Value} (hv : RefVol w X bs sz V) (hn : bs.length = nb)
    (hbs : ∀ i (hi : i < bs.length), bs[i] = blk sz i L) :
    Calls Try.prog 15 #[.pointer (some ⟨g, 0, none⟩), V] w fun e w' => e = .returned (.bool true) ∧ w.grownBy w' none := by
  obtain ⟨a, n, c, rfl, hbn, hrv, hsz⟩ := hv
  have HV := Lib.hid v; have HR := Lib.hid hrv; have HS := Lib.hid hsz; have HB := Lib.hid hbs
  clear v hrv hsz hbs
  obtain rfl : n = nb := by omega
  have HN := Lib.hid hbn
  have hnb : n ≤ 1024 := HV.out.nb_le
  clear hbn hn
  go_enter Try.func15, Try.ntmps15
  go_wp2_with fail
  go_quiet (first | (go_at_call 16; refine quiet_here (vol_blocks ((HV.out.grown (World.grownBy_alloc _ _ none)).grown (grown_drewN _ _)))) | (go_at_call 17; refine quiet_here (vol_size ((HV.out.grown (World.grownBy_alloc _ _ none)).grown (grown_drewN _ _)))))
  have hgr := grown_trans (World.grownBy_alloc w (.cells #[.slice a n c, .int .i64 sz] 29) none) (grown_drewN _ nq)
  have hbx := (Box.new w 29 [.slice a n c, .int .i64 sz] w.heap.size rfl).grown (grown_drewN _ nq)
  generalize (w.alloc (.cells #[.slice a n c, .int .i64 sz] 29)).drewN nq = w1 at *
  have HV1 := Lib.hid (HV.out.grown hgr)
  have HR1 := Lib.hid (HR.out.kept (Kept.of_grown hgr))
  have HG := Lib.hid hgr; have BX := Lib.hid hbx
  clear hgr hbx
  go_wp2_with fail
  go_loopw [5] (fun i wr => ∃ k : Nat, k ≤ n ∧ i = .int .i64 k ∧ w1.grownBy wr none) (fun i _ => n - (intOf i).toNat)
  case atStart => exact ⟨0, Nat.zero_le _, rfl, World.grownBy.refl _ _⟩
  case round =>
    obtain ⟨k, hk, rfl, hgr⟩ := hrel
    have HV2 := Lib.hid (HV1.out.grown hgr)
    have BX2 := Lib.hid (BX.out.grown hgr)
    have HR2 := Lib.hid (HR1.out.kept (Kept.of_grown hgr))
    have HGR := Lib.hid hgr
    have c0 := BX2.out.cell 0 rfl
    clear hgr
    by_cases hlt : k < n
    · have hb := HB.out k (by rw [HN.out]; exact hlt)
      obtain ⟨b, o, rfl, a', n', c', hc, hln, hrb⟩ := HR2.out.at k (by rw [HN.out]; exact hlt)
      rw [hb] at hln hrb
      obtain ⟨q, hq⟩ : ∃ q, blk sz k L = q := ⟨_, rfl⟩
      have hcall := fun u (hu : wr.grownBy u none) => vol_block_in (HV2.out.grown hu) k hlt
      rw [hq] at hln hrb hcall
      have hst := fun u (hu : wr.grownBy u none) => string_bytes a' n' c' q u (hrb.oldg hu) hln
      have h0 : wr.grownBy wr.drew none := grown_drew (World.grownBy.refl _ _)
      have hst0 := hst _ h0
      have HCALL := Lib.hid hcall; have HST := Lib.hid hst; have HC := Lib.hid hc
      clear hln hrb hb hq hcall hst
      have i0 : (0 : Int) ≤ (k : Int) := by omega
      have i1 : (k : Int) < (n : Int) := by omega
      go_wp2_with fail
      go_region_held_law (fun w' => w'.cell? ⟨w.heap.size, 0, none⟩ = some (.slice (some ⟨b, o, none⟩) n c) ∧ w'.cell? ⟨b, o + k, none⟩ = some (.slice a' n' c') ∧ (convert 33 9 (.slice a' n' c')).run Try.prog w' = .ok (.string (strB q)) w')
        (first | (refine ⟨?_, ?_, ?_⟩ <;> assumption) | fail)
        (first | (go_at_call 21; refine (HCALL.out _ (by assumption)).mono ?_; rintro e w5 ⟨a5, n5, c5, rfl, hn5, hr5, _, hg5⟩; have hg6 := grown_trans h0 hg5; have k1 := grown_cell hg6 c0; have k2 := grown_cell hg6 HC.out; have k3 := HST.out _ hg6; have k4 := string_bytes a5 n5 c5 q w5 hr5 hn5))
      clear hst0 k1 k2 k3 k4
      have HG6 := Lib.hid hg6
      clear hg6 hg5 hr5 hn5
      go_wp2_with fail
      go_roundw
      case rel => exact ⟨k + 1, by omega, by go_num, grown_trans HGR.out HG6.out⟩
      case measure => simp only [intOf]; omega
    · obtain rfl : k = n := by omega
      go_wp2_with fail
      refine (vol_block_out HV2.out (-1) (.inl (by omega))).mono ?_
      rintro e w3 ⟨rfl, rfl⟩
      go_wp2_with fail
      refine (vol_block_out HV2.out k (.inr (by omega))).mono ?_
      rintro e w3 ⟨rfl, rfl⟩
      go_wp2_with fail
      go_ret
      exact ⟨rfl, grown_trans HG.out HGR.out⟩
end Go.Proofs.Ytnikeceeclfnpaa
