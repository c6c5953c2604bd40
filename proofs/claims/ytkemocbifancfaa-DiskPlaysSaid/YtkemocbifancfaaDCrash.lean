/-
  A crash of a disk: the first writes are sure, and some bytes of the next one.
-/
import Derived.Test.YtkemocbifancfaaDCopy
namespace Go.Proofs.Ytkemocbifancfaa
open Go.RowKit
set_option maxRecDepth 100000

def endV (s : Nat) (F : FaceV) : Nat := F.f * s + F.l.length
def totB (T : List WriteV) : Nat := (T.map (·.b.length)).sum
theorem totB_cons (W : WriteV) (T : List WriteV) : totB (W :: T) = W.b.length + totB T := by simp [totB]
theorem totB_append (T U : List WriteV) : totB (T ++ U) = totB T + totB U := by simp [totB]
theorem totB_at {T : List WriteV} {k : Nat} (h : k < T.length) : totB (T.take k) + T[k].b.length ≤ totB T := by
  have e : T = T.take k ++ (T[k] :: T.drop (k + 1)) := by rw [← List.drop_eq_getElem_cons h, List.take_append_drop]
  have e2 : totB T = totB (T.take k) + totB (T[k] :: T.drop (k + 1)) := by rw [← totB_append, ← e]
  rw [e2, totB_cons]
  omega
theorem totB_take (T : List WriteV) (k : Nat) : totB (T.take k) ≤ totB T := by
  have e2 : totB T = totB (T.take k) + totB (T.drop k) := by rw [← totB_append, List.take_append_drop]
  omega
theorem seenV_end (nb sz s : Nat) (hs : 1 ≤ s) : ∀ (T : List WriteV) (F : FaceV), endV s (seenV nb sz s F T) ≤ endV s F + totB T
  | [], F => by simp [seenV, totB]
  | W :: T, F => by
    have h1 := seenV_end nb sz s hs T (doV nb sz s F W false 0)
    have h2 := doV_end nb sz s F W false 0 hs
    have h3 : seenV nb sz s F (W :: T) = seenV nb sz s (doV nb sz s F W false 0) T := rfl
    rw [h3, totB_cons]
    unfold endV at *
    omega
/-- what is sure when k writes have been looked at -/
def crashK (nb sz s : Nat) (F : FaceV) (T : List WriteV) (keep tear : Int) (k : Nat) : FaceV :=
  if k ≤ keep.toNat then seenV nb sz s F (T.take k) else
  match T.drop keep.toNat with
  | [] => seenV nb sz s F T
  | w :: _ => doV nb sz s (seenV nb sz s F (T.take keep.toNat)) w true tear
theorem crashK_zero (nb sz s : Nat) (F : FaceV) (T : List WriteV) (keep tear : Int) : crashK nb sz s F T keep tear 0 = F := if_pos (Nat.zero_le _)
theorem crashK_whole {nb sz s : Nat} {F : FaceV} {T : List WriteV} {keep tear : Int} {k : Nat} (h : k < T.length) (hk : (k : Int) < keep) : crashK nb sz s F T keep tear (k + 1) = doV nb sz s (crashK nb sz s F T keep tear k) T[k] false 0 := by
  unfold crashK
  rw [if_pos (by omega), if_pos (by omega), seenV_take nb sz s F T k h]
theorem crashK_torn {nb sz s : Nat} {F : FaceV} {T : List WriteV} {keep tear : Int} {k : Nat} (h : k < T.length) (hk : k = keep.toNat) : crashK nb sz s F T keep tear (k + 1) = doV nb sz s (crashK nb sz s F T keep tear k) T[k] true tear := by
  unfold crashK
  rw [if_neg (by omega), if_pos (by omega), ← hk, List.drop_eq_getElem_cons h]
theorem crashK_past {nb sz s : Nat} {F : FaceV} {T : List WriteV} {keep tear : Int} {k : Nat} (hk : keep.toNat < k) : crashK nb sz s F T keep tear (k + 1) = crashK nb sz s F T keep tear k := by
  unfold crashK
  rw [if_neg (by omega), if_neg (by omega)]
theorem crashK_all (nb sz s : Nat) (F : FaceV) (T : List WriteV) (keep tear : Int) : crashK nb sz s F T keep tear T.length = crashV nb sz s F T keep tear := by
  unfold crashK crashV
  by_cases h : T.length ≤ keep.toNat
  · rw [if_pos h, List.drop_of_length_le h, List.take_of_length_le (Nat.le_refl _)]
  · rw [if_neg h]
    cases T.drop keep.toNat <;> rfl
theorem crashK_end {nb sz s : Nat} (hs : 1 ≤ s) (F : FaceV) (T : List WriteV) (keep tear : Int) (k : Nat) : endV s (crashK nb sz s F T keep tear k) ≤ endV s F + totB T := by
  unfold crashK
  split
  · have h1 := seenV_end nb sz s hs (T.take k) F
    have h2 := totB_take T k
    omega
  · split
    · exact seenV_end nb sz s hs T F
    · rename_i W R hd
      have hlt : keep.toNat < T.length := by
        have := congrArg List.length hd
        rw [List.length_drop, List.length_cons] at this
        omega
      have hW : T[keep.toNat] = W := by
        rw [List.drop_eq_getElem_cons hlt] at hd
        exact (List.cons.inj hd).1
      have h1 := seenV_end nb sz s hs (T.take keep.toNat) F
      have h2 := totB_at hlt
      have h3 := doV_end nb sz s (seenV nb sz s F (T.take keep.toNat)) W true tear hs
      rw [hW] at h2
      unfold endV at *
      omega
theorem RX.less {w : World} {X Y : Nat → Prop} {a : Option Addr} {l : List UInt8} (h : RX w X a l) (hXY : ∀ k, Y k → X k) : RX w Y a l := fun i hi => by
  obtain ⟨b, o, e, hx, hc⟩ := h i hi
  exact ⟨b, o, e, fun hy => hx (hXY _ hy), hc⟩
structure CrashSt (w : World) (D : DId) (nb sz N s : Nat) (S : FaceV) (T : List WriteV) (keep tear : Int) (k : Nat) (j : FId) (wr : World) : Prop where
  fj : FaceAt wr j nb sz N s (crashK nb sz s S T keep tear k)
  e : j.gv = D.j.gv ∧ j.gt = D.j.gt
  fx : ∀ q, FX j q → FX D.j q ∨ w.heap.size ≤ q
  kept : Kept (FX D.j) w wr
theorem CrashSt.next {w wr w1 w' : World} {D : DId} {nb sz N s : Nat} {S : FaceV} {T : List WriteV} {keep tear : Int} {k : Nat} {j : FId} {r : Ending} (h : CrashSt w D nb sz N s S T keep tear k j wr) (hg : wr.grownBy w1 none) (hp : FaceDoPost w1 j nb sz N s (crashK nb sz s S T keep tear (k + 1)) r w') :
    ∃ j', CrashSt w D nb sz N s S T keep tear (k + 1) j' w' := by
  obtain ⟨_, j', h1, h2, h3, h4, h5⟩ := hp
  have hz := h.kept.size
  have hz1 := hg.size
  refine ⟨j', h1, ⟨h2.trans h.e.1, h3.trans h.e.2⟩, fun q hq => ?_, ?_⟩
  · rcases h4 q hq with e | e
    · exact h.fx q e
    · exact .inr (by omega)
  · have hk1 := h.kept.trans (Kept.of_grown hg)
    exact ⟨h5.os.trans hk1.os, h5.tape.trans hk1.tape, h5.output.trans hk1.output, Nat.le_trans hk1.size h5.size, fun q hq hx => (h5.block q (Nat.lt_of_lt_of_le hq hk1.size) (fun e => by
      rcases h.fx q e with e | e
      · exact hx e
      · omega)).trans (hk1.block q hq hx)⟩
theorem CrashSt.skip {w wr w' : World} {D : DId} {nb sz N s : Nat} {S : FaceV} {T : List WriteV} {keep tear : Int} {k : Nat} {j : FId} (h : CrashSt w D nb sz N s S T keep tear k j wr) (hg : wr.grownBy w' none) (hk : keep.toNat < k) : CrashSt w D nb sz N s S T keep tear (k + 1) j w' :=
  ⟨by rw [crashK_past hk]; exact h.fj.grown hg, h.e, h.fx, h.kept.trans (Kept.of_grown hg)⟩
def CrashRel (w : World) (D : DId) (nb sz N s : Nat) (S : FaceV) (T : List WriteV) (keep tear : Int) (n : Nat) (iv : Value) (wr : World) : Prop := ∃ (k : Nat) (j : FId), k ≤ n ∧ iv = .int .i64 (k : Int) ∧ CrashSt w D nb sz N s S T keep tear k j wr
theorem DiskAt.crash {w wr w2 : World} {D : DId} {nb sz N s most : Nat} {S : FaceV} {T : List WriteV} {keep tear : Int} (h : DiskAt w D nb sz N s most S T) {j i : FId} (hc : CrashSt w D nb sz N s S T keep tear T.length j wr) (hi : FaceAt w2 i nb sz N s (crashV nb sz s S T keep tear)) (hin : ∀ k, FX i k → wr.heap.size ≤ k) (hg : wr.grownBy w2 none) :
    OpPost w D nb sz N s most (crashV nb sz s S T keep tear) [] (.tuple #[]) (.returned (.tuple #[]))
      (((w2.alloc (.cells #[.pointer (some ⟨i.gv, 0, none⟩), .pointer (some ⟨i.gt, 0, none⟩)] 68)).setCell ⟨D.d, 0, none⟩ (.pointer (some ⟨w2.heap.size, 0, none⟩))).setCell ⟨D.d, 3, none⟩ (.slice none 0 0)) := by
  have hfj := hc.fj
  rw [crashK_all] at hfj
  have hz := hc.kept.size
  have hz2 := hg.size
  have hga := World.grownBy_alloc w2 (.cells #[.pointer (some ⟨i.gv, 0, none⟩), .pointer (some ⟨i.gt, 0, none⟩)] 68) none
  have hnw := Box.new w2 68 [.pointer (some ⟨i.gv, 0, none⟩), .pointer (some ⟨i.gt, 0, none⟩)] w2.heap.size rfl
  have hdl := h.low _ (.inl rfl)
  have hb3 := ((h.box.keptX hc.kept h.sep.2.2.2.1).grown hg).grown hga
  have hst : (w2.alloc (.cells #[.pointer (some ⟨i.gv, 0, none⟩), .pointer (some ⟨i.gt, 0, none⟩)] 68)).grownBy (((w2.alloc (.cells #[.pointer (some ⟨i.gv, 0, none⟩), .pointer (some ⟨i.gt, 0, none⟩)] 68)).setCell ⟨D.d, 0, none⟩ (.pointer (some ⟨w2.heap.size, 0, none⟩))).setCell ⟨D.d, 3, none⟩ (.slice none 0 0)) (some D.d) := grown_same (grown_setCell _ _ _ _) (grown_setCell _ _ _ _)
  have hks : Kept (fun k => k = D.d) _ _ := Kept.of_row hst rfl
  have hjd : ∀ k, FX j k → k ≠ D.d := fun k hk e => by
    rcases hc.fx k hk with h1 | h1
    · exact h.sep.2.2.2.1 (e ▸ h1)
    · omega
  have hid : ∀ k, FX i k → k ≠ D.d := fun k hk e => by have := hin k hk; omega
  have hil : ∀ k, FX i k → k < w2.heap.size := hi.low
  have hjl : ∀ k, FX j k → k < wr.heap.size := hc.fj.low
  refine ⟨rfl, ⟨D.d, w2.heap.size, i, j, .slice none 0 0, []⟩, ⟨?_, hnw.kept hst (by simp; omega), ?_, ?_, OwnR.nil _ _ _ _, rfl, fun q h1 _ => absurd h1 (by simp), ⟨?_, fun e => hid _ e rfl, fun e => ?_, fun e => hjd _ e rfl, fun e => ?_⟩, fun k e1 e2 => ?_, fun k e => by simp [Value.ownBlock] at e, fun k hk => ?_, fun k hk _ => ?_⟩, rfl, fun k hk => ?_, fun k hk => ?_, ?_⟩
  · rw [hc.e.1, hc.e.2]
    exact (hb3.set 0 _).set 3 _
  · exact (hi.grown hga).keptX hks (fun k hk e => hid k hk e)
  · exact ((hfj.grown hg).grown hga).keptX hks (fun k hk e => hjd k hk e)
  · simp only; omega
  · have : w2.heap.size < w2.heap.size := hil _ e
    omega
  · have : w2.heap.size < wr.heap.size := hjl _ e
    omega
  · have h1 := hin k e1
    have h2 := hjl k e2
    omega
  · obtain ⟨x, hx, _⟩ := hk; cases hx
  · obtain ⟨x, hx, _⟩ := hk; cases hx
  · obtain ⟨x, hx, _⟩ := hk; cases hx
  · rcases hk with e | e | e | e | e
    · exact .inl (.inl e)
    · have e' : k = w2.heap.size := e
      exact .inr (by omega)
    · have e' := hin k e
      exact .inr (by omega)
    · exact (hc.fx k e).imp (fun e => .inr (.inr (.inr (.inl e)))) id
    · simp [Value.ownBlock] at e
  · exact ((((hc.kept.more (fun k e => .inr (.inr (.inr (.inl e))))).trans (Kept.of_grown hg)).trans (Kept.of_grown hga))).trans (hks.more (fun k e => .inl e))

end Go.Proofs.Ytkemocbifancfaa
