/-
  Copies into arrays of bytes, and the comparison of two of them.
-/
import Derived.Test.YtfmcbnoldcfcbaaDoorMemB
namespace Go.Proofs.YtfmcbnoldcfcbaaDoor
open Go.RowKit Go.ChangeShapes Go.WideShapes Go.ChangeAt

/-- 'copy(d, s)' of bytes into a box of as many bytes, s having as many at least -/
theorem run_copy_box {w : World} {ty T : TypeId} (sp : Option Addr) (dLen dCap sLen sCap : Nat) (g : Nat) (L : List UInt8) (hg : Box w g T (L.map bval)) (src : List UInt8) (hr : RB w sp src) (hn : src.length = sLen)
    (hL : L.length = dLen) (hpos : 0 < dLen) (hle : dLen ≤ sLen) :
    ∃ w', (Builtin.copy_ #[25, 25] ty #[.slice (some ⟨g, 0, none⟩) dLen dCap, .slice sp sLen sCap]).run Tryd.prog w = .ok (goInt dLen) w' ∧ Box w' g T ((src.take dLen).map bval) ∧ w.grownBy w' (some g) := by
  have hsz : (Tryd.prog.info? 5).map (·.size) = some 1 := by kernel_rfl
  have hlen : (src.take dLen).length = dLen := by rw [List.length_take]; omega
  have hmin : (src.take dLen).length = Nat.min sLen dLen := by rw [List.length_take, hn, Nat.min_comm]
  cases sp with
  | none =>
    exfalso
    cases src with
    | nil => simp at hn; omega
    | cons y ys => obtain ⟨b, o', e, _⟩ := hr 0 (by simp); cases e
  | some ad =>
    have hcells : ∀ j v, ((src.take dLen).map bval)[j]? = some v → w.cell? (ad.add j) = some v := (hr.take dLen).cells
    have hrun := run_copy_row (P := Tryd.prog) w 25 25 ty 5 g 0 dLen dCap ad sLen sCap _ T ((src.take dLen).map bval) Tryd.underlying25 hsz hg (by rw [List.length_map]; exact hmin) hcells (by simp; omega) (bval_one _)
    rw [List.length_map, hlen] at hrun
    refine ⟨_, hrun, ?_, ⟨rfl, rfl, rfl, by simp [World.setRow], fun k _ hk => setRow_other w g k _ (fun e => hk (by rw [e]))⟩⟩
    unfold Box
    rw [setRow_heap w g _ _ T _ hg]
    congr 2
    simp
    omega

theorem wpList_copy_box {w : World} {ops : Array Oper} {rest : List Oper} {o : Oper} {a : Act} {Q : Exit → Act → World → Prop} {T : TypeId} (hgd : o.guard = none) (d s : Operand)
    (ho : o.op = .call { callee := .builtin .copy, args := #[d, s], argTypes := #[25, 25] })
    (sp : Option Addr) (dLen dCap sLen sCap : Nat) (g : Nat) (hd : a.eval d = .slice (some ⟨g, 0, none⟩) dLen dCap) (hs : a.eval s = .slice sp sLen sCap)
    (L : List UInt8) (hg : Box w g T (L.map bval)) (src : List UInt8) (hr : RB w sp src) (hn : src.length = sLen)
    (hL : L.length = dLen) (hpos : 0 < dLen) (hle : dLen ≤ sLen)
    (h : ∀ w', Box w' g T ((src.take dLen).map bval) → w.grownBy w' (some g) → wpList Tryd.prog ops Q rest (a.put o.dst (goInt dLen)) w') :
    wpList Tryd.prog ops Q (o :: rest) a w := by
  refine wpList_plain hgd fun _ hK => ?_
  obtain ⟨w', hrun, h1, h2⟩ := run_copy_box (ty := o.type) sp dLen dCap sLen sCap g L hg src hr hn hL hpos hle
  unfold Oper.wp execOp
  simp only [ho, resolve, invoke, builtin, Sem.run_bind, Sem.run_pure, Result.andThen_ok, List.map_toArray, List.map_cons, List.map_nil, hd, hs, hrun]
  exact hK _ _ (h w' h1 h2)

theorem eq8_step (xs ys : List UInt8) (hx : xs.length = 8) (hy : ys.length = 8) (w : World) (i : Nat) (hi : i < 8) :
    (Op.equalIn 9999 5 (bval (xs[i]'(by omega))) (bval (ys[i]'(by omega)))).run Tryd.prog w = .ok (xs[i]'(by omega) == ys[i]'(by omega)) w := by
  rw [show (9999 : Nat) = 9998 + 1 from rfl]
  unfold bval
  rw [run_equalIn_int w 9998 5 .u8 .u8 _ _ Tryd.underlying5]
  congr 1
  rw [Bool.eq_iff_iff]
  simp only [beq_iff_eq]
  constructor
  · intro h; exact UInt8.toNat_inj.1 (by omega)
  · intro h; rw [h]

theorem run_eq8 (xs ys : List UInt8) (hx : xs.length = 8) (hy : ys.length = 8) (w : World) :
    (Op.equalIn 10000 54 (.agg (xs.map bval).toArray) (.agg (ys.map bval).toArray)).run Tryd.prog w = .ok (xs == ys) w := by
  obtain ⟨inf, hi, hz0, hz1, hz2⟩ := info_parts info_u8
  have hs := eq8_step xs ys hx hy w
  match xs, hx, ys, hy, hs with
  | [x0, x1, x2, x3, x4, x5, x6, x7], _, [y0, y1, y2, y3, y4, y5, y6, y7], _, hs =>
    have h0 := hs 0 (by decide)
    have h1 := hs 1 (by decide)
    have h2 := hs 2 (by decide)
    have h3 := hs 3 (by decide)
    have h4 := hs 4 (by decide)
    have h5 := hs 5 (by decide)
    have h6 := hs 6 (by decide)
    have h7 := hs 7 (by decide)
    simp only [List.getElem_cons_zero, List.getElem_cons_succ] at h0 h1 h2 h3 h4 h5 h6 h7
    rw [show (10000 : Nat) = 9999 + 1 from rfl, Op.equalIn]
    simp only [Sem.run_bind, run_underlying Tryd.underlying54, Result.andThen_ok]
    simp only [Std.Legacy.Range.forIn_eq_forIn_range', Std.Legacy.Range.size, Nat.sub_zero, Nat.add_sub_cancel, Nat.div_one, List.range'_succ, List.range'_zero, List.forIn_cons, List.forIn_nil]
    simp [run_underlying Tryd.underlying5, sizeOf, typeInfo, hi, hz1, part, isAgg, h0, h1, h2, h3, h4, h5, h6, h7]
    repeat' split
    all_goals simp_all

end Go.Proofs.YtfmcbnoldcfcbaaDoor
