/-
  A volume and a tape behind a cache: plain laws.
-/
import Derived.Test.YtkemocbifancfaaTApart
import Derived.Test.YtkemocbifancfaaVolPure
namespace Go.Proofs.Ytkemocbifancfaa
open Go.RowKit
set_option maxRecDepth 100000

/-- what a volume and a tape show: the volume's bytes, the tape's first segment's number, its bytes -/
structure FaceV where
  L : List UInt8
  f : Nat
  l : List UInt8
/-- something that is pending: its kind, block, bytes, number -/
structure WriteV where
  k : Int
  i : Int
  b : List UInt8
  n : Int
/-- the first bytes of some, as a torn write has them -/
def tornB (b : List UInt8) (torn : Bool) (n : Int) : List UInt8 := if torn then b.take n.toNat else b
/-- what a write does, whole or torn -/
def doV (nb sz s : Nat) (F : FaceV) (w : WriteV) (torn : Bool) (n : Int) : FaceV :=
  if w.k = 0 then ⟨(tearV nb sz F.L w.i w.b (if torn then n else sz)).1, F.f, F.l⟩
  else if w.k = 1 then ⟨F.L, F.f, F.l ++ tornB w.b torn n⟩
  else if torn then F
  else if w.k = 2 then ⟨F.L, F.f + dropN s F.f F.l.length w.n, F.l.drop (dropN s F.f F.l.length w.n * s)⟩
  else ⟨F.L, F.f, cutT s F.f F.l w.n⟩
/-- all that is pending done -/
def seenV (nb sz s : Nat) (F : FaceV) (T : List WriteV) : FaceV := T.foldl (fun F w => doV nb sz s F w false 0) F
/-- a crash: the first keep writes, some bytes of the next one -/
def crashV (nb sz s : Nat) (F : FaceV) (T : List WriteV) (keep tear : Int) : FaceV :=
  match T.drop keep.toNat with
  | [] => seenV nb sz s F T
  | w :: _ => doV nb sz s (seenV nb sz s F (T.take keep.toNat)) w true tear
theorem seenV_snoc (nb sz s : Nat) (F : FaceV) (T : List WriteV) (w : WriteV) : seenV nb sz s F (T ++ [w]) = doV nb sz s (seenV nb sz s F T) w false 0 := by
  unfold seenV
  rw [List.foldl_append]
  rfl
theorem seenV_take (nb sz s : Nat) (F : FaceV) (T : List WriteV) (i : Nat) (h : i < T.length) : seenV nb sz s F (T.take (i + 1)) = doV nb sz s (seenV nb sz s F (T.take i)) T[i] false 0 := by
  rw [List.take_succ_eq_append_getElem h, seenV_snoc]
theorem splice_length {α : Type} (L cs : List α) (lo : Nat) (h : lo + cs.length ≤ L.length) : (splice L lo cs).length = L.length := by
  unfold splice
  simp only [List.length_append, List.length_take, List.length_drop]
  omega
theorem tearV_length {nb sz N : Nat} {L : List UInt8} (hN : nb * sz = N) (hL : L.length = N) (i : Int) (b : List UInt8) (n : Int) : (tearV nb sz L i b n).1.length = N := by
  unfold tearV
  split
  · exact hL
  · split
    · exact hL
    · rename_i h1 h2
      unfold tearL
      rw [splice_length, hL]
      have h3 : i.toNat * sz + sz ≤ N := mul_step hN (by omega)
      rw [hL, List.length_take]
      unfold whole
      rw [List.length_append, List.length_replicate]
      omega
theorem torn_len (b : List UInt8) (torn : Bool) (n : Int) : (tornB b torn n).length ≤ b.length := by
  unfold tornB
  split
  · rw [List.length_take]; omega
  · exact Nat.le_refl _
/-- how far a tape goes by a write -/
theorem doV_end (nb sz s : Nat) (F : FaceV) (w : WriteV) (torn : Bool) (n : Int) (hs : 1 ≤ s) : (doV nb sz s F w torn n).f * s + (doV nb sz s F w torn n).l.length ≤ F.f * s + F.l.length + w.b.length := by
  unfold doV
  split
  · simp only; omega
  · split
    · simp only
      have := torn_len w.b torn n
      rw [List.length_append]; omega
    · split
      · omega
      · split
        · simp only
          have h := (drop_le s F.f F.l.length w.n hs).1
          rw [Nat.add_mul, List.length_drop]
          generalize dropN s F.f F.l.length w.n * s = t at *
          omega
        · simp only
          have := cut_len s F.f F.l w.n
          omega

end Go.Proofs.Ytkemocbifancfaa
