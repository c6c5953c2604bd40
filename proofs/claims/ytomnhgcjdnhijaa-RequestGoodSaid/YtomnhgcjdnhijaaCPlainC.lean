import Derived.Test.YtomnhgcjdnhijaaCPlainB
namespace Go.Proofs.Ytomnhgcjdnhijaa
open Go.RowKit
set_option maxRecDepth 100000
theorem built_conf (s v : Int) : Try.prog.built 62 [(0, .int .i64 s), (1, .int .i64 v), (4, .int .i64 8), (5, .int .i64 32), (6, .int .i64 2), (7, .int .i64 256), (8, .int .i64 65536), (9, .int .i64 256)] = some #[.int .i64 s, .int .i64 v, .slice none 0 0, .int .u8 0, .int .u8 0, .int .u8 0, .int .u8 0, .int .u8 0, .int .u8 0, .int .u8 0, .int .u8 0, .int .u8 0, .int .u8 0, .int .u8 0, .int .u8 0, .int .u8 0, .int .u8 0, .int .u8 0, .int .u8 0, .int .i64 8, .int .i64 32, .int .i64 2, .int .i64 256, .int .i64 65536, .int .i64 256, .int .i64 0] := by kernel_rfl
theorem wpList_build_eq {ops : Array Oper} {rest : List Oper} {o : Oper} {a : Act} {w : World} {Q : Exit → Act → World → Prop} (hg : o.guard = none) (t : TypeId) (parts : Array (Nat × Operand)) (ho : o.op = .build t parts)
    (ps : List (Nat × Value)) (hp : parts.toList.map (fun p => (p.1, a.eval p.2)) = ps) (cs : Array Value) (hf : Try.prog.built t ps = some cs)
    (h : wpList Try.prog ops Q rest (a.put o.dst (.agg cs)) w) : wpList Try.prog ops Q (o :: rest) a w := by
  have e : (parts.map fun (i, x) => (i, a.eval x)).toList = ps := by rw [Array.toList_map]; exact hp
  refine wpList_build hg t parts ho ?_ ?_
  · rw [e, hf]; rfl
  · rw [e, hf]; exact h
theorem info_decl : (Try.prog.info? 98).map (fun i => (i.zero, i.size, i.bytes)) = some (some (.agg #[.int .u8 0, .int .u8 0, .int .u8 0, .int .i64 0, .int .i64 0, .int .i64 0]), 6, 32) := by kernel_rfl
theorem Box.row {w : World} {g : Nat} {T : TypeId} {cs cs' : List Value} (h : Box w g T cs) : Box (w.setRow g cs'.toArray) g T cs' := setRow_heap w g cs.toArray cs'.toArray T (0, 0) h
theorem grown_setRow (w : World) (g : Nat) (cs : Array Value) : w.grownBy (w.setRow g cs) (some g) :=
  ⟨rfl, rfl, rfl, by simp, fun k _ hne => setRow_other w g k cs (fun e => hne (by rw [e]))⟩
theorem plain_step {w wr w4 wc : World} {T T9 : TypeId} {z cs9 : List Value} {B j k : Nat} {a a3 : Option Addr} {F : List KeyP} {LL : List (List Value)} {us : List Value} {g' cap : Nat}
    (hbz : Box wr w.heap.size T z) (hbc : Box wr (w.heap.size + 1) T9 cs9) (how : OwnR wr B 98 6 (.slice a j k) LL) (hkl : KeyList wr a3 F) (hg : w.grownBy wr none) (hB : B ≤ wr.heap.size) (hB2 : w.heap.size + 2 ≤ B)
    (hf3 : ∀ x, a3 = some x → w.heap.size + 2 ≤ x.block ∧ x.block < B) (h4 : wr.grownBy w4 none) (hgc : w4.grownBy wc (Value.slice a j k).ownBlock)
    (hoc : OwnR wc B 98 6 (.slice (some ⟨g', 0, none⟩) (j + 1) cap) (LL ++ [us])) (cs' : List Value) (hcs : cs9.set 2 (.slice (some ⟨g', 0, none⟩) (j + 1) cap) = cs') {u0 : Value} (hu0 : cs9[2]? = some u0) :
    wc.cell? ⟨w.heap.size + 1, 2, none⟩ = some u0 ∧ wc.frozen? ⟨w.heap.size + 1, 2, none⟩ = false ∧ Box (wc.setCell ⟨w.heap.size + 1, 2, none⟩ (.slice (some ⟨g', 0, none⟩) (j + 1) cap)) w.heap.size T z ∧
    Box (wc.setCell ⟨w.heap.size + 1, 2, none⟩ (.slice (some ⟨g', 0, none⟩) (j + 1) cap)) (w.heap.size + 1) T9 cs' ∧
    OwnR (wc.setCell ⟨w.heap.size + 1, 2, none⟩ (.slice (some ⟨g', 0, none⟩) (j + 1) cap)) B 98 6 (.slice (some ⟨g', 0, none⟩) (j + 1) cap) (LL ++ [us]) ∧
    KeyList (wc.setCell ⟨w.heap.size + 1, 2, none⟩ (.slice (some ⟨g', 0, none⟩) (j + 1) cap)) a3 F ∧
    w.grownBy (wc.setCell ⟨w.heap.size + 1, 2, none⟩ (.slice (some ⟨g', 0, none⟩) (j + 1) cap)) none ∧
    B ≤ (wc.setCell ⟨w.heap.size + 1, 2, none⟩ (.slice (some ⟨g', 0, none⟩) (j + 1) cap)).heap.size := by
  have hlt := how.lt
  have hb9 := hbc.lt
  have hkB : ∀ b, b < B → (Value.slice a j k).ownBlock ≠ some b := fun b hb e => by have := (hlt b e).1; omega
  have hgB := (hoc.lt g' rfl).1
  have h1 := (hbz.grown h4).kept hgc (hkB _ (by omega))
  have h2 := (hbc.grown h4).kept hgc (hkB _ (by omega))
  have h3 := (hkl.kept (row := none) h4 (fun _ _ => by simp)).kept hgc (fun x hx => hkB _ (hf3 x hx).2)
  have hgr : w.grownBy wc none := grown_row (grown_trans hg h4) (fun g e => by have := (hlt g e).1; omega) hgc
  have hsz : wr.heap.size ≤ wc.heap.size := Nat.le_trans h4.size hgc.size
  refine ⟨h2.cell 2 hu0, h2.free 2, h1.kept (grown_setCell wc _ 2 _) (by simp), hcs ▸ h2.set 2 _, hoc.kept (grown_setCell wc _ 2 _) (.inr ?_), h3.kept (grown_setCell wc _ 2 _) (fun x hx e => ?_), grown_new hgr (Nat.le_succ _) (grown_setCell wc _ 2 _), ?_⟩
  · show some g' ≠ some (w.heap.size + 1)
    intro e
    cases e
    omega
  · have := (hf3 x hx).1
    have e := Option.some.inj e
    omega
  · have := (grown_setCell wc (w.heap.size + 1) 2 (.slice (some ⟨g', 0, none⟩) (j + 1) cap)).size
    omega
theorem prio_step {w wr : World} {T : TypeId} {z cs9 cs' : List Value} {B : Nat} {v u : Value} {LL : List (List Value)} {i : Nat}
    (hbz : Box wr w.heap.size T z) (hbc : Box wr (w.heap.size + 1) T cs9) (how : OwnR wr B 98 6 v LL) (hg : w.grownBy wr none) (hB2 : w.heap.size + 2 ≤ B) (hcs : cs9.set i u = cs') :
    Box (wr.setCell ⟨w.heap.size + 1, i, none⟩ u) w.heap.size T z ∧ Box (wr.setCell ⟨w.heap.size + 1, i, none⟩ u) (w.heap.size + 1) T cs' ∧ OwnR (wr.setCell ⟨w.heap.size + 1, i, none⟩ u) B 98 6 v LL ∧ w.grownBy (wr.setCell ⟨w.heap.size + 1, i, none⟩ u) none := by
  refine ⟨hbz.kept (grown_setCell wr _ i _) (by simp), hcs ▸ hbc.set i _, how.kept (grown_setCell wr _ i _) (.inr fun e => ?_), grown_new hg (Nat.le_succ _) (grown_setCell wr _ i _)⟩
  have := (how.lt _ e).1
  omega
theorem plainN_D (s v : Nat) (I H : Int) : (plainN s v I H).D = (keysF (s : Int) (v : Int)).map (mkD I H) := by simp only [plainN, plain0]
theorem plainN_cells (s v : Nat) (I H : Int) (a : Option Addr) (n k z : Nat) (hz : needF (plain0 s v I H 0) = z) (c : ConfP) (hc : c = plainN s v I H) :
    Ending.returned (.agg (ConfCells s v a n k (prioF s v 0) z).toArray) = Ending.returned (.agg #[.int .i64 c.sk, .int .i64 c.wa, .slice a n k, .int .u8 ((c.p 0 0).toNat : Int), .int .u8 ((c.p 0 1).toNat : Int), .int .u8 ((c.p 0 2).toNat : Int), .int .u8 ((c.p 0 3).toNat : Int), .int .u8 ((c.p 1 0).toNat : Int), .int .u8 ((c.p 1 1).toNat : Int), .int .u8 ((c.p 1 2).toNat : Int), .int .u8 ((c.p 1 3).toNat : Int), .int .u8 ((c.p 2 0).toNat : Int), .int .u8 ((c.p 2 1).toNat : Int), .int .u8 ((c.p 2 2).toNat : Int), .int .u8 ((c.p 2 3).toNat : Int), .int .u8 ((c.p 3 0).toNat : Int), .int .u8 ((c.p 3 1).toNat : Int), .int .u8 ((c.p 3 2).toNat : Int), .int .u8 ((c.p 3 3).toNat : Int), .int .i64 c.sg, .int .i64 c.od, .int .i64 c.rt, .int .i64 c.se, .int .i64 c.ca, .int .i64 c.bl, .int .i64 c.bs]) := by
  subst hz hc
  simp only [plainN, plain0, ConfCells]
theorem plainN_rneed (s v : Nat) (I H : Int) (a : Option Addr) (n k z : Nat) (hz : needF (plain0 s v I H 0) = z) (u : World) :
    Calls Try.prog 60 #[.agg (ConfCells s v a n k (prioF s v 0) 0).toArray] u fun r w' => r = .returned (.int .i64 (z : Int)) ∧ u.grownBy w' none := by
  subst hz
  have h := ref_need (plain0 s v I H 0) a n k u (by simp only [plain0]; unfold i64; omega)
  simpa only [plain0, ConfCells] using h
theorem ConfCells.len (s v : Nat) (a : Option Addr) (n k : Nat) (p : Nat → Nat → UInt8) (bs : Int) : (ConfCells s v a n k p bs).length = 26 := rfl
theorem ConfCells.one (s v : Nat) (a : Option Addr) (n k : Nat) (p : Nat → Nat → UInt8) (bs : Int) : (ConfCells s v a n k p bs).all (·.oneCell') = true := rfl
theorem wpList_store_conf {ops : Array Oper} {rest : List Oper} {o : Oper} {a : Act} {w : World} {Q : Exit → Act → World → Prop} (hgd : o.guard = none) (x y : Operand) (ho : o.op = .store 62 x y)
    (g : Nat) (cs cs0 : List Value) (hx : a.eval x = .pointer (some ⟨g, 0, none⟩)) (hy : a.eval y = .agg cs.toArray) (hb : Box w g 62 cs0) (hl : cs.length = 26) (hl0 : cs0.length = 26) (h1 : cs.all (·.oneCell') = true)
    (h : wpList Try.prog ops Q rest (a.put o.dst undef) (w.setRow g cs.toArray)) : wpList Try.prog ops Q (o :: rest) a w :=
  wpList_store_row hgd _ x y ho g cs.toArray hx hy _ cs0.toArray hb (by rw [List.size_toArray, hl]; exact info_conf) (by simp [hl, hl0]) (one_of h1) h
theorem wpList_load_conf {ops : Array Oper} {rest : List Oper} {o : Oper} {a : Act} {w : World} {Q : Exit → Act → World → Prop} (hgd : o.guard = none) (x : Operand) (ho : o.op = .load 62 x)
    (g : Nat) (cs : List Value) (hx : a.eval x = .pointer (some ⟨g, 0, none⟩)) (hb : Box w g 62 cs) (hl : cs.length = 26)
    (h : wpList Try.prog ops Q rest (a.put o.dst (.agg cs.toArray)) w) : wpList Try.prog ops Q (o :: rest) a w :=
  wpList_load_mid hgd _ x ho g 0 hx cs _ (range_conf hb) Try.underlying62 rfl (by rw [hl]; exact info_conf) h
theorem bodyPost_conf {fn : Func} {p : Tmp} (hf : fn.results = #[.cell p 62]) {R : Ending → World → Prop} {a : Act} {w : World} {g : Nat} {cs : List Value} (hp : a.tmps.getD p undef = .pointer (some ⟨g, 0, none⟩))
    (hb : Box w g 62 cs) (hl : cs.length = 26) (hd : a.defers = []) (hR : R (.returned (.agg cs.toArray)) w) : bodyPost Try.prog fn R .ret a w :=
  bodyPost_ret (results_cell_row hf a.tmps w g _ cs.toArray (0, 0) _ hp hb Try.underlying62 rfl (by rw [List.size_toArray, hl]; exact info_conf)) hd hR

end Go.Proofs.Ytomnhgcjdnhijaa
