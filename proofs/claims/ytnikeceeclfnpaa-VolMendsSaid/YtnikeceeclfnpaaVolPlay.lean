/-
  'do' and 'few' of the laws of volumes; VolPlays.
-/
import Derived.Test.YtnikeceeclfnpaaVolPure
namespace Go.Proofs.Ytnikeceeclfnpaa
open Go.RowKit

/-- a volume, and the document's, that have the same blocks; the latter's are read outside X -/
structure Pair (w : World) (X : Nat → Prop) (B g h nb sz N : Nat) (L : List UInt8) (bs : List (List UInt8)) (V : Value) : Prop where
  vol : VolAt w B g h nb sz N L
  ref : RefVol w X bs sz V
  mt : Match nb sz bs L
  inX : X h
  fresh : ∀ k, w.heap.size ≤ k → ¬ X k

theorem Pair.grown {w w' : World} {X : Nat → Prop} {B g h nb sz N : Nat} {L : List UInt8} {bs : List (List UInt8)} {V : Value} (p : Pair w X B g h nb sz N L bs V) (hg : w.grownBy w' none) : Pair w' X B g h nb sz N L bs V :=
  ⟨p.vol.grown hg, p.ref.grown hg, p.mt, p.inX, fun k hk => p.fresh k (Nat.le_trans hg.size hk)⟩

theorem Pair.and1 {w w' : World} {X : Nat → Prop} {B g h nb sz N : Nat} {L : List UInt8} {bs : List (List UInt8)} {V : Value} (p : Pair w X B g h nb sz N L bs V) (b : Nat) (hb : w.heap.size ≤ b) (hg : w.grownBy w' none) (hb' : b < w'.heap.size) : Pair w' (And1 X b) B g h nb sz N L bs V :=
  ⟨p.vol.grown hg, (p.ref.and1 b hb).grown hg, p.mt, .inl p.inX, fun k hk => by
    have := hg.size
    rintro (h | h)
    · exact p.fresh k (by omega) h
    · omega⟩

theorem Box.set2 {w : World} {g : Nat} {T : TypeId} {cs : List Value} (hb : Box w g T cs) (k : Nat) (hk : k ≠ g) (u v : Value) : Box ((w.setCell ⟨k, 0, none⟩ u).setCell ⟨k, 1, none⟩ v) g T cs :=
  (hb.kept (grown_setCell w k 0 u) (by simpa using hk)).kept (grown_setCell _ k 1 v) (by simpa using hk)

/-- an act -/
structure ActP where
  i : Int
  b : List UInt8
  torn : Bool
  n : Int
def ActP.k (a : ActP) (sz : Nat) : Int := if a.torn then a.n else sz

def DoPost (w : World) (X : Nat → Prop) (B g h nb sz N : Nat) (e : Ending) (w' : World) : Prop :=
  ∃ V L bs, e = .returned (.tuple #[V, .bool true]) ∧ Pair w' X B g h nb sz N L bs V ∧ w.grownBy w' (some h)

set_option maxHeartbeats 1600000 in
theorem vol_do {w : World} {X : Nat → Prop} {B g h nb sz N : Nat} {L : List UInt8} {bs : List (List UInt8)} {V : Value} (p : Pair w X B g h nb sz N L bs V) (i n : Int) (t : Bool) (ba : Option Addr) (len cap : Nat) (b : List UInt8) (hb : b.length = len) (hr : RB w ba b) :
    Calls Try.prog 14 #[.pointer (some ⟨g, 0, none⟩), V, .agg #[.int .i64 i, .slice ba len cap, .bool t, .int .i64 n]] w (DoPost w X B g h nb sz N) := by
  obtain ⟨a, c, rfl⟩ := p.ref.open
  have HP := Lib.hid p; have HB := Lib.hid hb; have HR := Lib.hid hr
  obtain ⟨m, hm⟩ : ∃ m, bs.length = m := ⟨_, rfl⟩
  rw [hm]
  have HM := Lib.hid hm
  clear p hb hr hm
  cases t
  · go_enter Try.func14, Try.ntmps14
    go_wp2_with fail
    have hg0 := grown_trans (grown_trans (World.grownBy_alloc w (.cells #[.slice a m c, .int .i64 sz] 29) none) (World.grownBy_alloc _ (.cells #[.int .i64 i, .slice ba len cap, .bool false, .int .i64 n] 35) none)) (World.grownBy_alloc _ (.cells #[.slice none 0 0, .int .i64 0] 29) none)
    have hba := (Box.new (w.alloc (.cells #[.slice a m c, .int .i64 sz] 29)) 35 [.int .i64 i, .slice ba len cap, .bool false, .int .i64 n] (w.heap.size + 1) (by simp)).alloc (.cells #[.slice none 0 0, .int .i64 0] 29)
    have hbr := Box.new ((w.alloc (.cells #[.slice a m c, .int .i64 sz] 29)).alloc (.cells #[.int .i64 i, .slice ba len cap, .bool false, .int .i64 n] 35)) 29 [.slice none 0 0, .int .i64 0] (w.heap.size + 2) (by simp)
    generalize ((w.alloc (.cells #[.slice a m c, .int .i64 sz] 29)).alloc (.cells #[.int .i64 i, .slice ba len cap, .bool false, .int .i64 n] 35)).alloc (.cells #[.slice none 0 0, .int .i64 0] 29) = w0 at *
    have hs0 : w.heap.size + 3 ≤ w0.heap.size := hbr.lt
    have P1 := Lib.hid (HP.out.and1 (w.heap.size + 2) (by omega) hg0 (by omega))
    have BA := Lib.hid hba; have BR := Lib.hid hbr; have HG := Lib.hid hg0; have HR0 := Lib.hid (HR.out.oldg hg0)
    clear hba hbr hg0
    have hcall := refv_put_any P1.out.ref P1.out.fresh i ba len cap b HB.out HR0.out (by rw [P1.out.mt.1]; exact P1.out.vol.nb_le) P1.out.vol.sz_le
    rw [HM.out] at hcall
    have HC := Lib.hid hcall; clear hcall
    refine HC.out.mono ?_
    rintro e w1 ⟨V1, rfl, hv1, hg1⟩
    obtain ⟨a1, c1, rfl⟩ := hv1.open
    have P2 := Lib.hid (P1.out.grown hg1); have V1 := Lib.hid hv1; have BA1 := Lib.hid (BA.out.grown hg1); have BR1 := Lib.hid (BR.out.grown hg1); have HG1 := Lib.hid (grown_trans HG.out hg1); have HR1 := Lib.hid (HR0.out.oldg hg1)
    have hm1 : w0.heap.size ≤ w1.heap.size := hg1.size
    have t0 := BA1.out.cell 0 rfl
    have t1 := BA1.out.cell 1 rfl
    have t2 := BA1.out.cell 2 rfl
    have t3 := BA1.out.cell 3 rfl
    clear hv1 hg1
    obtain ⟨bs', hbs'⟩ : ∃ r, (refTear sz bs i b sz).1 = r := ⟨_, rfl⟩
    obtain ⟨e', he'⟩ : ∃ r, (refTear sz bs i b sz).2 = r := ⟨_, rfl⟩
    have HT := Lib.hid (tear_match P1.out.vol.mul P1.out.vol.len P1.out.mt i b sz)
    rw [hbs', he'] at HT
    rw [hbs'] at V1
    simp only [hbs', he']
    clear hbs' he'
    generalize hml : bs'.length = m' at *
    have HML := Lib.hid hml; clear hml
    have r0 := BR1.out.cell 0 rfl
    have r1 := BR1.out.cell 1 rfl
    have r2 := BR1.out.free 0
    have r3 := BR1.out.free 1
    have r4 := fun v => (BR1.out.set 0 v).cell 1 rfl
    have r5 := fun v => (BR1.out.set 0 v).free 1
    go_wp2_with fail
    have hgx := World.grownBy_alloc w1 (.cells #[.slice a1 m' c1, .int .i64 sz] 29) none
    have hbx := Box.new w1 29 [.slice a1 m' c1, .int .i64 sz] w1.heap.size rfl
    have hd := grown_drew hgx
    generalize w1.alloc (.cells #[.slice a1 m' c1, .int .i64 sz] 29) = w4 at *
    rw [show w.heap.size + 1 + 1 = w.heap.size + 2 from rfl]
    have P3 := Lib.hid (P2.out.grown hd); have V3 := Lib.hid (V1.out.grown hd); have HG3 := Lib.hid (grown_trans HG1.out hd); have HR3 := Lib.hid (HR1.out.oldg hd)
    have BX3 := Lib.hid hbx.drew; have BA3 := Lib.hid (BA1.out.grown hd); have BR3 := Lib.hid (BR1.out.grown hd)
    have hlt := P1.out.vol.lt
    have hlh : h < w.heap.size := HP.out.vol.lt.2
    clear t0 t1 t2 t3 r0 r1 r2 r3 r4 r5 P1 P2 V1 HG1 HR1 BA1 BR1 hgx hbx hd BA BR HG
    have t0 := BA3.out.cell 0 rfl
    have t1 := BA3.out.cell 1 rfl
    have t3 := BA3.out.cell 3 rfl
    have x0 := BX3.out.cell 0 rfl
    have x1 := BX3.out.cell 1 rfl
    go_region_held_law (fun w' => w'.cell? ⟨w.heap.size + 1, 0, none⟩ = some (.int .i64 i) ∧ w'.cell? ⟨w.heap.size + 1, 1, none⟩ = some (.slice ba len cap) ∧ w'.cell? ⟨w.heap.size + 1, 3, none⟩ = some (.int .i64 n) ∧ w'.cell? ⟨w1.heap.size, 0, none⟩ = some (.slice a1 m' c1) ∧ w'.cell? ⟨w1.heap.size, 1, none⟩ = some (.int .i64 sz))
      (first | (refine ⟨?_, ?_, ?_, ?_, ?_⟩ <;> first | assumption | exact s0 _ _ | exact s1 _ _ | exact s2 _ _ | exact s3 _ _ | exact s4 _ _))
      (first | (go_at_call 20; refine (vol_put_any P3.out.vol i ba len cap b HB.out HR3.out).mono ?_; rintro e w5 ⟨rfl, hv5, hg5⟩
                have ba5 := BA3.out.kept hg5 (by intro e; cases e; omega)
                have bx5 := BX3.out.kept hg5 (by intro e; cases e; omega)
                have br5 := BR3.out.kept hg5 (by intro e; cases e; omega)
                have u0 := ba5.cell 0 rfl
                have u1 := ba5.cell 1 rfl
                have u3 := ba5.cell 3 rfl
                have y0 := bx5.cell 0 rfl
                have y1 := bx5.cell 1 rfl
                have r0 := br5.cell 0 rfl
                have r1 := br5.cell 1 rfl
                have r2 := br5.free 0
                have r3 := br5.free 1
                have r4 := fun v => (br5.set 0 v).cell 1 rfl
                have r5 := fun v => (br5.set 0 v).free 1
                have s0 := fun u v => (ba5.set2 (w.heap.size + 2) (by omega) u v).cell 0 rfl
                have s1 := fun u v => (ba5.set2 (w.heap.size + 2) (by omega) u v).cell 1 rfl
                have s2 := fun u v => (ba5.set2 (w.heap.size + 2) (by omega) u v).cell 3 rfl
                have s3 := fun u v => (bx5.set2 (w.heap.size + 2) (by omega) u v).cell 0 rfl
                have s4 := fun u v => (bx5.set2 (w.heap.size + 2) (by omega) u v).cell 1 rfl))
    rw [show ((tearV nb sz L i b sz).2 == e') = true from by rw [HT.out.2]; simp]
    clear s0 s1 s2 s3 s4 u0 u1 u3 y0 y1 r0 r1 r2 r3 r4 r5
    have BF := (br5.set 0 (.slice a1 m' c1)).set 1 (.int .i64 sz)
    have f0 := BF.cell 0 rfl
    have f1 := BF.cell 1 rfl
    have HV5 := Lib.hid hv5; have HG5 := Lib.hid hg5
    clear hv5 hg5 ba5 bx5 br5 BF
    go_wp2_with fail
    refine bodyPost_ret (v := .tuple #[.agg #[.slice a1 m' c1, .int .i64 sz], .bool true]) ?_ rfl ?_
    · simp only [results]
      go_simp
    · have hset : w5.grownBy ((w5.setCell ⟨w.heap.size + 2, 0, none⟩ (.slice a1 m' c1)).setCell ⟨w.heap.size + 2, 1, none⟩ (.int .i64 sz)) (some (w.heap.size + 2)) := grown_same (grown_setCell _ _ _ _) (grown_setCell _ _ _ _)
      have hgx := P3.out.vol.lt
      have hmt := HT.out.1
      have hgh := HP.out.vol.lt
      refine ⟨_, _, bs', rfl, ⟨HV5.out.kept hset (by intro e; cases e; omega) (by intro e; cases e; omega), ?_, hmt, HP.out.inX, ?_⟩, ?_⟩
      · exact ((V3.out.kept (Kept.of_row HG5.out (.inl HP.out.inX))).kept (Kept.of_row hset (.inr rfl))).weaken fun k hk => .inl hk
      · intro k hk
        have h1 := HG3.out.size
        have h2 := HG5.out.size
        have h3 := hset.size
        exact HP.out.fresh k (by omega)
      · exact ⟨hset.os.trans (HG5.out.os.trans HG3.out.os), hset.tape.trans (HG5.out.tape.trans HG3.out.tape), hset.output.trans (HG5.out.output.trans HG3.out.output), Nat.le_trans HG3.out.size (Nat.le_trans HG5.out.size hset.size), fun k hk hne => by
          rw [hset.block k (by have := HG3.out.size; have := HG5.out.size; omega) (by intro e; cases e; omega), HG5.out.block k (by have := HG3.out.size; omega) hne, HG3.out.block k hk (by simp)]⟩
  · go_enter Try.func14, Try.ntmps14
    go_wp2_with fail
    have hg0 := grown_trans (grown_trans (World.grownBy_alloc w (.cells #[.slice a m c, .int .i64 sz] 29) none) (World.grownBy_alloc _ (.cells #[.int .i64 i, .slice ba len cap, .bool true, .int .i64 n] 35) none)) (World.grownBy_alloc _ (.cells #[.slice none 0 0, .int .i64 0] 29) none)
    have hba := (Box.new (w.alloc (.cells #[.slice a m c, .int .i64 sz] 29)) 35 [.int .i64 i, .slice ba len cap, .bool true, .int .i64 n] (w.heap.size + 1) (by simp)).alloc (.cells #[.slice none 0 0, .int .i64 0] 29)
    have hbr := Box.new ((w.alloc (.cells #[.slice a m c, .int .i64 sz] 29)).alloc (.cells #[.int .i64 i, .slice ba len cap, .bool true, .int .i64 n] 35)) 29 [.slice none 0 0, .int .i64 0] (w.heap.size + 2) (by simp)
    generalize ((w.alloc (.cells #[.slice a m c, .int .i64 sz] 29)).alloc (.cells #[.int .i64 i, .slice ba len cap, .bool true, .int .i64 n] 35)).alloc (.cells #[.slice none 0 0, .int .i64 0] 29) = w0 at *
    have hs0 : w.heap.size + 3 ≤ w0.heap.size := hbr.lt
    have P1 := Lib.hid (HP.out.and1 (w.heap.size + 2) (by omega) hg0 (by omega))
    have BA := Lib.hid hba; have BR := Lib.hid hbr; have HG := Lib.hid hg0; have HR0 := Lib.hid (HR.out.oldg hg0)
    clear hba hbr hg0
    have hcall := refv_tear_any P1.out.ref P1.out.fresh i n ba len cap b HB.out HR0.out (by rw [P1.out.mt.1]; exact P1.out.vol.nb_le) P1.out.vol.sz_le
    rw [HM.out] at hcall
    have HC := Lib.hid hcall; clear hcall
    refine HC.out.mono ?_
    rintro e w1 ⟨V1, rfl, hv1, hg1⟩
    obtain ⟨a1, c1, rfl⟩ := hv1.open
    have P2 := Lib.hid (P1.out.grown hg1); have V1 := Lib.hid hv1; have BA1 := Lib.hid (BA.out.grown hg1); have BR1 := Lib.hid (BR.out.grown hg1); have HG1 := Lib.hid (grown_trans HG.out hg1); have HR1 := Lib.hid (HR0.out.oldg hg1)
    have hm1 : w0.heap.size ≤ w1.heap.size := hg1.size
    have t0 := BA1.out.cell 0 rfl
    have t1 := BA1.out.cell 1 rfl
    have t2 := BA1.out.cell 2 rfl
    have t3 := BA1.out.cell 3 rfl
    clear hv1 hg1
    obtain ⟨bs', hbs'⟩ : ∃ r, (refTear sz bs i b n).1 = r := ⟨_, rfl⟩
    obtain ⟨e', he'⟩ : ∃ r, (refTear sz bs i b n).2 = r := ⟨_, rfl⟩
    have HT := Lib.hid (tear_match P1.out.vol.mul P1.out.vol.len P1.out.mt i b n)
    rw [hbs', he'] at HT
    rw [hbs'] at V1
    simp only [hbs', he']
    clear hbs' he'
    generalize hml : bs'.length = m' at *
    have HML := Lib.hid hml; clear hml
    have r0 := BR1.out.cell 0 rfl
    have r1 := BR1.out.cell 1 rfl
    have r2 := BR1.out.free 0
    have r3 := BR1.out.free 1
    have r4 := fun v => (BR1.out.set 0 v).cell 1 rfl
    have r5 := fun v => (BR1.out.set 0 v).free 1
    go_wp2_with fail
    have hgx := World.grownBy_alloc w1 (.cells #[.slice a1 m' c1, .int .i64 sz] 29) none
    have hbx := Box.new w1 29 [.slice a1 m' c1, .int .i64 sz] w1.heap.size rfl
    have hd := grown_drew hgx
    generalize w1.alloc (.cells #[.slice a1 m' c1, .int .i64 sz] 29) = w4 at *
    rw [show w.heap.size + 1 + 1 = w.heap.size + 2 from rfl]
    have P3 := Lib.hid (P2.out.grown hd); have V3 := Lib.hid (V1.out.grown hd); have HG3 := Lib.hid (grown_trans HG1.out hd); have HR3 := Lib.hid (HR1.out.oldg hd)
    have BX3 := Lib.hid hbx.drew; have BA3 := Lib.hid (BA1.out.grown hd); have BR3 := Lib.hid (BR1.out.grown hd)
    have hlt := P1.out.vol.lt
    have hlh : h < w.heap.size := HP.out.vol.lt.2
    clear t0 t1 t2 t3 r0 r1 r2 r3 r4 r5 P1 P2 V1 HG1 HR1 BA1 BR1 hgx hbx hd BA BR HG
    have t0 := BA3.out.cell 0 rfl
    have t1 := BA3.out.cell 1 rfl
    have t3 := BA3.out.cell 3 rfl
    have x0 := BX3.out.cell 0 rfl
    have x1 := BX3.out.cell 1 rfl
    go_region_held_law (fun w' => w'.cell? ⟨w.heap.size + 1, 0, none⟩ = some (.int .i64 i) ∧ w'.cell? ⟨w.heap.size + 1, 1, none⟩ = some (.slice ba len cap) ∧ w'.cell? ⟨w.heap.size + 1, 3, none⟩ = some (.int .i64 n) ∧ w'.cell? ⟨w1.heap.size, 0, none⟩ = some (.slice a1 m' c1) ∧ w'.cell? ⟨w1.heap.size, 1, none⟩ = some (.int .i64 sz))
      (first | (refine ⟨?_, ?_, ?_, ?_, ?_⟩ <;> first | assumption | exact s0 _ _ | exact s1 _ _ | exact s2 _ _ | exact s3 _ _ | exact s4 _ _))
      (first | (go_at_call 19; refine (vol_tear_any P3.out.vol i n ba len cap b HB.out HR3.out).mono ?_; rintro e w5 ⟨rfl, hv5, hg5⟩
                have ba5 := BA3.out.kept hg5 (by intro e; cases e; omega)
                have bx5 := BX3.out.kept hg5 (by intro e; cases e; omega)
                have br5 := BR3.out.kept hg5 (by intro e; cases e; omega)
                have u0 := ba5.cell 0 rfl
                have u1 := ba5.cell 1 rfl
                have u3 := ba5.cell 3 rfl
                have y0 := bx5.cell 0 rfl
                have y1 := bx5.cell 1 rfl
                have r0 := br5.cell 0 rfl
                have r1 := br5.cell 1 rfl
                have r2 := br5.free 0
                have r3 := br5.free 1
                have r4 := fun v => (br5.set 0 v).cell 1 rfl
                have r5 := fun v => (br5.set 0 v).free 1
                have s0 := fun u v => (ba5.set2 (w.heap.size + 2) (by omega) u v).cell 0 rfl
                have s1 := fun u v => (ba5.set2 (w.heap.size + 2) (by omega) u v).cell 1 rfl
                have s2 := fun u v => (ba5.set2 (w.heap.size + 2) (by omega) u v).cell 3 rfl
                have s3 := fun u v => (bx5.set2 (w.heap.size + 2) (by omega) u v).cell 0 rfl
                have s4 := fun u v => (bx5.set2 (w.heap.size + 2) (by omega) u v).cell 1 rfl))
    rw [show ((tearV nb sz L i b n).2 == e') = true from by rw [HT.out.2]; simp]
    clear s0 s1 s2 s3 s4 u0 u1 u3 y0 y1 r0 r1 r2 r3 r4 r5
    have BF := (br5.set 0 (.slice a1 m' c1)).set 1 (.int .i64 sz)
    have f0 := BF.cell 0 rfl
    have f1 := BF.cell 1 rfl
    have HV5 := Lib.hid hv5; have HG5 := Lib.hid hg5
    clear hv5 hg5 ba5 bx5 br5 BF
    go_wp2_with fail
    refine bodyPost_ret (v := .tuple #[.agg #[.slice a1 m' c1, .int .i64 sz], .bool true]) ?_ rfl ?_
    · simp only [results]
      go_simp
    · have hset : w5.grownBy ((w5.setCell ⟨w.heap.size + 2, 0, none⟩ (.slice a1 m' c1)).setCell ⟨w.heap.size + 2, 1, none⟩ (.int .i64 sz)) (some (w.heap.size + 2)) := grown_same (grown_setCell _ _ _ _) (grown_setCell _ _ _ _)
      have hgx := P3.out.vol.lt
      have hmt := HT.out.1
      have hgh := HP.out.vol.lt
      refine ⟨_, _, bs', rfl, ⟨HV5.out.kept hset (by intro e; cases e; omega) (by intro e; cases e; omega), ?_, hmt, HP.out.inX, ?_⟩, ?_⟩
      · exact ((V3.out.kept (Kept.of_row HG5.out (.inl HP.out.inX))).kept (Kept.of_row hset (.inr rfl))).weaken fun k hk => .inl hk
      · intro k hk
        have h1 := HG3.out.size
        have h2 := HG5.out.size
        have h3 := hset.size
        exact HP.out.fresh k (by omega)
      · exact ⟨hset.os.trans (HG5.out.os.trans HG3.out.os), hset.tape.trans (HG5.out.tape.trans HG3.out.tape), hset.output.trans (HG5.out.output.trans HG3.out.output), Nat.le_trans HG3.out.size (Nat.le_trans HG5.out.size hset.size), fun k hk hne => by
          rw [hset.block k (by have := HG3.out.size; have := HG5.out.size; omega) (by intro e; cases e; omega), HG5.out.block k (by have := HG3.out.size; omega) hne, HG3.out.block k hk (by simp)]⟩
end Go.Proofs.Ytnikeceeclfnpaa
