/-
  Rows of events; wires.Read.
  The reference's SameType.
  The reference's SameEvents.
  The reference's reader of numbers.
-/
import Derived.Test.YtpidjanngbaiiaaGreatDoorM20
import Derived.Test.YtpidjanngbaiiaaGreatDoorM15
import Derived.Test.YtpidjanngbaiiaaGreatDoorM11
import Derived.Test.YtpidjanngbaiiaaGreatDoorM4
import Derived.Test.YtpidjanngbaiiaaGreatDoorM5
import Derived.Laws.StructEq
import Derived.Test.YtpidjanngbaiiaaGreatDoorM9
namespace Go.Proofs.YtpidjanngbaiiaaGreatDoor
open Go.RowKit Go.Proofs

set_option maxRecDepth 100000
abbrev evList (e : Ev) (lv kv : Value) : List Value := [.int .i64 e.kind, .int .i64 e.vs, .int .i64 e.vn, .string ⟨e.vt.toArray⟩, .int .i64 e.ty.kind, .int .i64 e.ty.sort, .string ⟨e.ty.name.toArray⟩, lv, kv, .string ⟨e.label.toArray⟩]
inductive EvsC (D : Blocks) (w : World) : List Value → List Ev → Prop where
 | nil : EvsC D w [] []
 | cons (e : Ev) (lv kv : Value) (xs : List Value) (es : List Ev) (hi : EvIn D w e lv kv) (h : EvsC D w xs es) : EvsC D w (evList e lv kv ++ xs) (e :: es)
theorem EvsC.append {D : Blocks} {w : World} {xs ys : List Value} {es fs : List Ev} (h : EvsC D w xs es) (h' : EvsC D w ys fs) : EvsC D w (xs ++ ys) (es ++ fs) := by
 induction h with
 | nil => exact h'
 | cons e lv kv xs es hi _ ih => rw [List.append_assoc]; exact .cons e lv kv _ _ hi ih
theorem EvsC.keep {D D' : Blocks} {w w' : World} {xs : List Value} {es : List Ev} (h : EvsC D w xs es) (hs : Same D w w') (hD : ∀ b, D b → b < w.heap.size → D' b) : EvsC D' w' xs es := by
 induction h with
 | nil => exact .nil
 | cons e lv kv xs es hi _ ih => exact .cons e lv kv _ _ (hi.keep hs hD) ih
theorem EvsC.one {D : Blocks} {w : World} {e : Ev} {lv kv : Value} (h : EvIn D w e lv kv) : EvsC D w (evList e lv kv) [e] := by
 have := EvsC.cons e lv kv [] [] h .nil
 rwa [List.append_nil] at this
theorem EvsC.row {D : Blocks} {w : World} {b : Nat} {xs : List Value} {es : List Ev} (h : EvsC D w xs es) : ∀ (off : Nat), (∀ j u, xs[j]? = some u → w.cell? ⟨b, off + j, none⟩ = some u) → ∀ i e, es[i]? = some e → ∃ lv kv, EvCells w b (off + i * 10) e lv kv ∧ EvIn D w e lv kv := by
 induction h with
 | nil => intro off _ i e h; simp at h
 | cons e lv kv xs es hi _ ih =>
  intro off hc i e' he
  cases i with
  | zero =>
   simp only [List.getElem?_cons_zero, Option.some.injEq] at he
   subst he
   refine ⟨lv, kv, ?_, hi⟩
   rw [Nat.zero_mul, Nat.add_zero]
   exact ⟨hc 0 _ rfl, hc 1 _ rfl, hc 2 _ rfl, hc 3 _ rfl, hc 4 _ rfl, hc 5 _ rfl, hc 6 _ rfl, hc 7 _ rfl, hc 8 _ rfl, hc 9 _ rfl⟩
  | succ i =>
   simp only [List.getElem?_cons_succ] at he
   have := ih (off + 10) (fun j u hj => by
    have h1 := hc (j + 10) u (by rw [List.getElem?_append_right (by simp)]; simpa using hj)
    rw [show off + 10 + j = off + (j + 10) by omega]
    exact h1) i e' he
   rwa [show off + 10 + i * 10 = off + (i + 1) * 10 by omega] at this
structure EvRow (w : World) (base : Nat) (v : Value) (es : List Ev) (xs : List Value) : Prop where
 own : w.ownsRow base 32 10 v es.length xs
 cells : EvsC (fun k => base ≤ k ∧ v.ownBlock ≠ some k) w xs es
theorem EvRow.at {w w' : World} {base b : Nat} {v : Value} {es : List Ev} {xs : List Value} (h : EvRow w base v es xs) (hg : w.grownBy w' (some b)) (hb : b < base) : EvRow w' base v es xs :=
 ⟨own_at h.own hg hb, h.cells.keep (fun k hk hl => hg.block k hl (fun e => by have := Option.some.inj e; have := hk.1; omega)) (fun _ hk _ => hk)⟩
theorem EvRow.below {w w' : World} {base : Nat} {v : Value} {es : List Ev} {xs : List Value} (h : EvRow w base v es xs) (hb : Below w.heap.size w w') : EvRow w' base v es xs :=
 ⟨own_keep h.own hb (Nat.le_refl _), h.cells.keep (Same.below hb) (fun _ hk _ => hk)⟩
theorem EvRow.set {w : World} {base : Nat} {v : Value} {es : List Ev} {xs : List Value} (h : EvRow w base v es xs) {a : Addr} (ha : a.block < base) (u : Value) : EvRow (w.setCell a u) base v es xs :=
 ⟨own_set h.own ha u, h.cells.keep (Same.set (fun hk => by have := hk.1; omega)) (fun _ hk _ => hk)⟩
theorem EvRow.drew {w : World} {base : Nat} {v : Value} {es : List Ev} {xs : List Value} (h : EvRow w base v es xs) : EvRow w.drew base v es xs := h.below (Below.refl _ _).drew
theorem EvRow.new (w : World) (base : Nat) : EvRow w base (.slice none 0 0) [] [] := ⟨⟨rfl, Or.inl ⟨rfl, rfl⟩⟩, .nil⟩
theorem EvRow.evs {D : Blocks} {w : World} {base : Nat} {v : Value} {es : List Ev} {xs : List Value} (h : EvRow w base v es xs) (hD : ∀ b, base ≤ b → D b) : EvsD D w v es := by
 have hc := h.cells.keep (D' := D) (w' := w) (fun _ _ _ => rfl) (fun k hk _ => hD k hk.1)
 have hcells := fun g => h.own.cells (g := g)
 rcases h.own.2 with ⟨e, h0⟩ | ⟨g, cap, cur, e, hg, _, hn, _⟩
 ·exact ⟨none, 0, by rw [h0]; exact e, by omega, fun _ => rfl, fun h1 => by omega⟩
 ·refine ⟨_, cap, e, hn, fun h => by simp at h, fun _ => ⟨g, 0, rfl, hD g hg, hc.row 0 fun j u hj => ?_⟩⟩
  have := hcells g (by rw [e]; rfl) j u hj
  rw [Go.WideShapes.add_plain] at this
  exact this
theorem EvRow.more {w w' : World} {base : Nat} {v v' : Value} {es : List Ev} {xs : List Value} {e : Ev} {lv kv : Value} (h : EvRow w base v es xs) (hi : EvIn (fun k => base ≤ k ∧ v.ownBlock ≠ some k) w e lv kv)
  (hown : w'.ownsRow base 32 10 v' (es.length + 1) (xs ++ evList e lv kv)) (hg : w.grownBy w' v.ownBlock) (hv : v'.ownBlock = v.ownBlock ∨ v'.ownBlock = some w.heap.size) : EvRow w' base v' (es ++ [e]) (xs ++ evList e lv kv) := by
 have hd : ∀ k, (base ≤ k ∧ v.ownBlock ≠ some k) → k < w.heap.size → base ≤ k ∧ v'.ownBlock ≠ some k := fun k hk hl => ⟨hk.1, fun e' => by
  rcases hv with h1 | h1
  ·exact hk.2 (h1.symm.trans e')
  ·have := Option.some.inj (h1.symm.trans e'); omega⟩
 refine ⟨by rw [List.length_append]; exact hown, EvsC.append (h.cells.keep (fun k hk hl => hg.block k hl (Ne.symm hk.2)) hd) ((EvsC.one hi).keep (fun k hk hl => hg.block k hl (Ne.symm hk.2)) hd)⟩
theorem rt_evs : RowType Tryz.prog 22 32 10 136 := .mk' (z := evAgg ⟨0, 0, 0, [], zeroTy, []⟩ (.slice none 0 0) (.slice none 0 0)) Tryz.underlying22 (by kernel_rfl) rfl (by decide)
theorem ten_new (w : World) (e : Ev) (lv kv : Value) (E : TypeId) : ∀ j u, (evList e lv kv)[j]? = some u → (w.alloc (.cells (evCells e lv kv) E)).cell? ((⟨w.heap.size, 0, none⟩ : Addr).add j) = some u := by
 intro j u hj
 rw [Go.WideShapes.add_plain]
 match j, hj with
 | 0, hj | 1, hj | 2, hj | 3, hj | 4, hj | 5, hj | 6, hj | 7, hj | 8, hj | 9, hj => simp at hj; subst hj; simp [go_sem]
 | j + 10, hj => simp at hj
structure LF (w : World) (L : Nat) (v : Value) (c a : Int) : Prop where
 l0 : w.cell? ⟨L, 0, none⟩ = some v
 lz : w.frozen? ⟨L, 0, none⟩ = false
 f0 : w.cell? ⟨L + 1, 0, none⟩ = some (.int .i64 c)
 f1 : w.cell? ⟨L + 1, 1, none⟩ = some (.int .i64 a)
 z0 : w.frozen? ⟨L + 1, 0, none⟩ = false
 z1 : w.frozen? ⟨L + 1, 1, none⟩ = false
theorem LF.keep {w w' : World} {L B : Nat} {v : Value} {c a : Int} (h : LF w L v c a) (hb : Below B w w') (hB : L + 1 < B) : LF w' L v c a :=
 ⟨(hb.cell (p := ⟨L, 0, none⟩) (show L < B by omega)).trans h.l0, (hb.frozen (p := ⟨L, 0, none⟩) (show L < B by omega)).trans h.lz, (hb.cell (p := ⟨L + 1, 0, none⟩) hB).trans h.f0, (hb.cell (p := ⟨L + 1, 1, none⟩) hB).trans h.f1, (hb.frozen (p := ⟨L + 1, 0, none⟩) hB).trans h.z0, (hb.frozen (p := ⟨L + 1, 1, none⟩) hB).trans h.z1⟩
theorem LF.grown {w w' : World} {L b : Nat} {v : Value} {c a : Int} (h : LF w L v c a) (hg : w.grownBy w' (some b)) (h1 : L ≠ b) (h2 : L + 1 ≠ b) : LF w' L v c a :=
 ⟨grown_cell hg h1 h.l0, grown_frozen hg h1 h.l0 h.lz, grown_cell hg h2 h.f0, grown_cell hg h2 h.f1, grown_frozen hg h2 h.f0 h.z0, grown_frozen hg h2 h.f1 h.z1⟩
theorem LF.drewN {w : World} {L : Nat} {v : Value} {c a : Int} (h : LF w L v c a) (n : Nat) : LF (w.drewN n) L v c a := ⟨h.l0, h.lz, h.f0, h.f1, h.z0, h.z1⟩
theorem LF.set {w : World} {L : Nat} {v : Value} {c a : Int} (h : LF w L v c a) (u : Value) : LF (w.setCell ⟨L, 0, none⟩ u) L u c a :=
 ⟨World.cell?_setCell_same' _ _ _ (by rw [h.l0]; rfl), by rw [World.frozen?_setCell]; exact h.lz, (World.cell?_setCell_far _ _ _ _ (by simp)).trans h.f0, (World.cell?_setCell_far _ _ _ _ (by simp)).trans h.f1, by rw [World.frozen?_setCell]; exact h.z0, by rw [World.frozen?_setCell]; exact h.z1⟩
theorem LF.set3 {w : World} {L : Nat} {v : Value} {c a : Int} (h : LF w L v c a) (u : Value) (c' a' : Int) : LF (((w.setCell ⟨L, 0, none⟩ u).setCell ⟨L + 1, 0, none⟩ (.int .i64 c')).setCell ⟨L + 1, 1, none⟩ (.int .i64 a')) L u c' a' := by
 have h1 := h.set u
 generalize w.setCell ⟨L, 0, none⟩ u = w1 at h1 ⊢
 have ne : ∀ {w : World} {i j : Nat} {u : Value}, i ≠ j → (w.setCell ⟨L + 1, i, none⟩ u).cell? ⟨L + 1, j, none⟩ = w.cell? ⟨L + 1, j, none⟩ := fun h => World.cell?_setCell_other _ _ _ _ (fun e => h (by injection e))
 have h31 : ¬ L + 1 = L := by omega
 refine ⟨?_, by simp only [World.frozen?_setCell]; exact h1.lz, ?_, ?_, by simp only [World.frozen?_setCell]; exact h1.z0, by simp only [World.frozen?_setCell]; exact h1.z1⟩
 ·rw [World.cell?_setCell_far _ _ _ _ h31, World.cell?_setCell_far _ _ _ _ h31]; exact h1.l0
 ·rw [ne (by decide)]; exact World.cell?_setCell_same' _ _ _ (by rw [h1.f0]; rfl)
 ·exact World.cell?_setCell_same' _ _ _ (by rw [ne (by decide), h1.f1]; rfl)
theorem below3 {w0 w : World} {B L : Nat} (hb : Below B w0 w) (h : B ≤ L) (u : Value) (c' a' : Int) : Below B w0 (((w.setCell ⟨L, 0, none⟩ u).setCell ⟨L + 1, 0, none⟩ (.int .i64 c')).setCell ⟨L + 1, 1, none⟩ (.int .i64 a')) :=
 ((hb.setCell (p := ⟨L, 0, none⟩) h _).setCell (p := ⟨L + 1, 0, none⟩) (show B ≤ L + 1 by omega) _).setCell (p := ⟨L + 1, 1, none⟩) (show B ≤ L + 1 by omega) _
theorem leaves_same {P : Program} {fn : Func} {t t' : Array Value} {R : Ending → World → Prop} (h : results fn t = results fn t') : ∀ (ds : List Deferred) (u : FrameMode) (w : World), Leaves P fn t R ds u w → Leaves P fn t' R ds u w := by
 intro ds
 induction ds with
 | nil =>
  intro u w hl
  cases u with
  | returning =>
   obtain ⟨v, h1, h2⟩ := hl
   exact ⟨v, by rw [← h]; exact h1, h2⟩
  | panicking c => exact hl
  | run => exact hl
 | cons d ds ih =>
  intro u w hl
  obtain ⟨h1, fv, cap, f, args, h2, h3, h4⟩ := hl
  refine ⟨h1, fv, cap, f, args, h2, h3, h4.mono ?_⟩
  rintro e u' w' he
  cases e with
  | returned v => exact ih _ _ he
  | panicked c => exact ih _ _ he
  | outgrown => exact he
theorem put9 {P : Program} {fn : Func} {i j : Tmp} {T U : TypeId} (hr : fn.results = #[.cell i T, .cell j U]) {R : Ending → World → Prop} (c : List PanicEntry) (a : Act) (k : Nat) (v : Value) (w : World) (h2 : k ≠ i) (h3 : k ≠ j) (h : bodyPostD P fn R (.panic c) (a.put (some k) v) w) : bodyPostD P fn R (.panic c) a w := by
 refine leaves_same (t := (a.put (some k) v).tmps) ?_ a.defers _ w h
 simp [results, hr, Act.put, Array.getD_eq_getD_getElem?, Array.getElem?_setIfInBounds, h2, h3]
set_option maxHeartbeats 16000000 in
theorem wRead_any (l : Str) (w : World) (hl : l.length ≤ 1048576) (hT : Tabs w) (hSo : Sorts w) :
  Calls Tryz.prog 9 #[.string ⟨l.toArray⟩] w fun e w' => Below w.heap.size w w' ∧ ∃ v, e = .returned (.tuple #[v, .agg #[.int .i64 (rdWire l).2.1, .int .i64 (rdWire l).2.2]]) ∧ EvsD (fun k => w.heap.size ≤ k) w' v (rdWire l).1 := by
 have hmf : ∀ (fn : Fn) (first cap : Array Value) (w : World), (Instr.makeFunc fn first cap).run Tryz.prog w = .ok (.func fn first cap) w := fun _ _ _ _ => rfl
 obtain ⟨RES, hA⟩ : ∃ r, rdWire l = r := ⟨_, rfl⟩
 rw [hA]
 have HA : Hid (rdEvs l 201 0 [] = RES) := Lib.hid hA
 clear hA
 have hKept : Kept (w.heap.size + 1 + 1) (fun w' => Below w.heap.size w w') := ⟨fun a b hab hg => hab.grown hg hab.size (fun k e => by have := Option.some.inj e; omega), fun a ha => hT.below ha, fun a ha => hSo.keep ha⟩
 have HKept := Lib.hid hKept
 clear hKept
 go_enter_defers Tryz.func9, Tryz.ntmps9
 go_wp2_with fail
 obtain ⟨W, hW⟩ : ∃ x, ((w.alloc (.cells #[.slice none 0 0] 22)).alloc (.cells #[.int .i64 0, .int .i64 0] 37)).alloc (.cells #[.string ⟨l.toArray⟩, .int .i64 0] 73) = x := ⟨_, rfl⟩
 have hbW : Below w.heap.size w W := by subst hW; go_grown
 have hzW : w.heap.size + 1 + 1 < W.heap.size := by subst hW; simp
 have LFW : LF W w.heap.size (.slice none 0 0) 0 0 := by subst hW; exact ⟨by simp [go_sem], by simp [go_sem], by simp [go_sem], by simp [go_sem], by simp [go_sem], by simp [go_sem]⟩
 have RBW : RBox W (w.heap.size + 1 + 1) l 0 := by subst hW; exact ⟨by simp [go_sem], by simp [go_sem], fun j => by simp [go_sem], by simp⟩
 rw [hW]
 clear hW
 have n1 : ¬ w.heap.size = w.heap.size + 1 := by omega
 have n2 : ¬ w.heap.size = w.heap.size + 1 + 1 := by omega
 have n3 : ¬ w.heap.size + 1 = w.heap.size + 1 + 1 := by omega
 have n4 : ¬ w.heap.size + 1 = w.heap.size := by omega
 have n5 : ¬ w.heap.size + 1 + 1 = w.heap.size := by omega
 have n6 : ¬ w.heap.size + 1 + 1 = w.heap.size + 1 := by omega
 go_loopg [] 200 (fun gk wr => ∃ (p : Nat) (es : List Ev) (v : Value) (xs : List Value), p ≤ l.length ∧ es.length + gk = 200 ∧ Hid (rdEvs l (gk + 1) p es = RES) ∧ Hid (RBox wr (w.heap.size + 1 + 1) l p) ∧ Hid (LF wr w.heap.size v 0 0) ∧ EvRow wr (w.heap.size + 1 + 1 + 1) v es xs ∧ Below w.heap.size w wr ∧ w.heap.size + 1 + 1 < wr.heap.size)
 case atStart => exact ⟨0, [], _, [], by omega, rfl, HA, Lib.hid RBW, Lib.hid LFW, EvRow.new _ _, hbW, hzW⟩
 case round =>
  clear RBW LFW hbW hzW HA
  obtain ⟨p, es, v, xs, hp, hes, hrd, HRB, HLF, hrow, hbr, hzr⟩ := hrel
  obtain ⟨Av, cv, rfl⟩ := own_form hrow.own
  obtain ⟨c0, c1, fr, lt⟩ := HRB.out
  obtain ⟨l0, lz, f0, f1, z0, z1⟩ := HLF.out
  have HROW := Lib.hid hrow
  clear hrow
  by_cases hend : l.length ≤ p
  ·have hlt : ¬ (p : Int) < (l.length : Int) := by omega
   have hres : (es, (0 : Int), 0) = RES := by
    have := hrd.out
    rw [rdEvs, if_pos hend] at this
    exact this
   have HRES := Lib.hid hres
   clear hres hrd
   go_wp2_with fail
   have LF2 := HLF.out.set3 (.slice Av es.length cv) 0 0
   have B2 := below3 hbr (Nat.le_refl _) (.slice Av es.length cv) 0 0
   have row2 := ((HROW.out.set (a := ⟨w.heap.size, 0, none⟩) (show w.heap.size < _ by omega) (.slice Av es.length cv)).set (a := ⟨w.heap.size + 1, 0, none⟩) (show w.heap.size + 1 < _ by omega) (.int .i64 0)).set (a := ⟨w.heap.size + 1, 1, none⟩) (show w.heap.size + 1 < _ by omega) (.int .i64 0)
   generalize ((wr.setCell ⟨w.heap.size, 0, none⟩ (.slice Av es.length cv)).setCell ⟨w.heap.size + 1, 0, none⟩ (.int .i64 0)).setCell ⟨w.heap.size + 1, 1, none⟩ (.int .i64 0) = w2 at LF2 B2 row2 ⊢
   refine leaves_cons (f := 33) (args := #[.pointer (some ⟨w.heap.size, 0, none⟩), .pointer (some ⟨w.heap.size + 1, 0, none⟩)]) (by simp) (by simp [go_sem]) ?_
   refine (wcatch_idle w.heap.size (w.heap.size + 1) w2).mono ?_
   rintro e u' w3 ⟨rfl, rfl, hw⟩
   rw [hw]
   obtain ⟨y0, y1, y2, y3, y4, y5⟩ := LF2
   rw [← HRES.out]
   refine ⟨.tuple #[.slice Av es.length cv, .agg #[.int .i64 0, .int .i64 0]], by simp [results, Tryz.results9, go_sem, y0, y2, y3], B2, _, rfl, row2.evs (fun k hk => by omega)⟩
  ·have hlt : (p : Int) < (l.length : Int) := by omega
   by_cases h200 : es.length = 200
   ·have h2 : ((es.length : Int) == 200) = true := by rw [beq_iff_eq]; omega
    have hres : (([] : List Ev), (2 : Int), p) = RES := by
     have := hrd.out
     rw [rdEvs, if_neg hend, if_pos h200] at this
     exact this
    have HRES := Lib.hid hres
    clear hres hrd h200
    go_wp2_with fail
    go_region
    go_wp2_with fail
    have LF2 := HLF.out.set3 (.slice none 0 0) 2 p
    have B2 := (below3 hbr (Nat.le_refl _) (.slice none 0 0) 2 p).drew
    generalize ((wr.setCell ⟨w.heap.size, 0, none⟩ (.slice none 0 0)).setCell ⟨w.heap.size + 1, 0, none⟩ (.int .i64 2)).setCell ⟨w.heap.size + 1, 1, none⟩ (.int .i64 p) = w2 at LF2 B2 ⊢
    refine leaves_cons (f := 33) (args := #[.pointer (some ⟨w.heap.size, 0, none⟩), .pointer (some ⟨w.heap.size + 1, 0, none⟩)]) (by simp) (by simp [go_sem]) ?_
    refine (wcatch_idle w.heap.size (w.heap.size + 1) w2.drew).mono ?_
    rintro e u' w3 ⟨rfl, rfl, hw⟩
    rw [hw]
    obtain ⟨y0, y1, y2, y3, y4, y5⟩ := LF2
    rw [← HRES.out]
    refine ⟨.tuple #[.slice none 0 0, .agg #[.int .i64 2, .int .i64 p]], by simp [results, Tryz.results9, go_sem, y0, y2, y3], B2, _, rfl, evs_nil _ _⟩
   ·have h2 : ((es.length : Int) == 200) = false := by rw [beq_eq_false_iff_ne]; omega
    go_wp2_with fail
    have HSd : Hid ((fun w' : World => w'.cell? ⟨w.heap.size, 0, none⟩ = some (.slice Av es.length cv)) wr.drew) := Lib.hid l0
    refine wp_region_T 5 (fun w' : World => w'.cell? ⟨w.heap.size, 0, none⟩ = some (.slice Av es.length cv)) (by kernel_rfl) ?_
    refine wpT_take (i := 0) (v := ?_) rfl (by kernel_rfl) (by kernel_rfl) (by kernel_rfl) (by kernel_rfl) (fun c a w h => put9 Tryz.results9 c a _ _ w (by decide) (by decide) h) (Or.inl ⟨by rfl, ?_⟩) HSd.out ?_
    rotate_left
    ·(intro wq hSw; have l0 := hSw; go_simp; all_goals (first | (with_reducible rfl) | (rw [zI])))
    simp only [zA, zB, zC, Act.put, zD, zE, zF]
    refine wpT_take (i := 1) (v := ?_) rfl (by kernel_rfl) (by kernel_rfl) (by kernel_rfl) (by kernel_rfl) (fun c a w h => put9 Tryz.results9 c a _ _ w (by decide) (by decide) h) (Or.inl ⟨by rfl, ?_⟩) HSd.out ?_
    rotate_left
    ·(intro wq hSw; have l0 := hSw; go_simp; all_goals (first | (with_reducible rfl) | (rw [zI])))
    simp only [zA, zB, zC, Act.put, zD, zE, zF]
    refine zO 2 fun K hK => ?_
    go_simp
    refine (wrevent_any l (w.heap.size + 1 + 1) p wr.drew hl (by omega) (HRB.out.drewN 1) _ HKept.out hbr.drew).mono ?_
    rintro e w2 ⟨hg2, hans⟩
    have LF2 := (HLF.out.drewN 1).grown hg2 (by omega) (by omega)
    have row2 := HROW.out.drew.at hg2 (by omega)
    have hb2 : Below w.heap.size w w2 := hbr.drew.grown hg2 hbr.size (fun k e => by have := Option.some.inj e; omega)
    cases hr : rdEv l p with
    | error q =>
     rw [hr] at hans
     simp only at hans
     subst hans
     have hres : (([] : List Ev), (3 : Int), q) = RES := by
      have := hrd.out
      rw [rdEvs, if_neg hend, if_neg h200, hr] at this
      exact this
     have HRES := Lib.hid hres
     refine leaves_cons (f := 33) (args := #[.pointer (some ⟨w.heap.size, 0, none⟩), .pointer (some ⟨w.heap.size + 1, 0, none⟩)]) (by simp) (by simp [go_sem]) ?_
     refine (wcatch_thrown w.heap.size (w.heap.size + 1) q w2 LF2.l0 LF2.lz LF2.f0 LF2.f1 LF2.z0 LF2.z1 n1 n4).mono ?_
     rintro e u' w3 ⟨rfl, rfl, hw⟩
     have LF3 := LF2.set3 (.slice none 0 0) 3 q
     have B3 := (below3 hb2 (Nat.le_refl _) (.slice none 0 0) 3 q).drew
     rw [← hw] at B3
     generalize ((w2.setCell ⟨w.heap.size, 0, none⟩ (.slice none 0 0)).setCell ⟨w.heap.size + 1, 0, none⟩ (.int .i64 3)).setCell ⟨w.heap.size + 1, 1, none⟩ (.int .i64 q) = w4 at LF3 hw
     subst hw
     obtain ⟨y0, y1, y2, y3, y4, y5⟩ := LF3
     rw [← HRES.out]
     refine ⟨.tuple #[.slice none 0 0, .agg #[.int .i64 3, .int .i64 q]], by simp [results, Tryz.results9, go_sem, y0, y2, y3], B3, _, rfl, evs_nil _ _⟩
    | ok x =>
     obtain ⟨ev, q⟩ := x
     rw [hr] at hans
     obtain ⟨v, rfl, hev, hR2⟩ := hans
     obtain ⟨lv, kv, rfl, hin⟩ := hev
     simp only at hin hR2
     have hle := rdEv_le hr
     simp only at hle
     have hz2 : wr.heap.size ≤ w2.heap.size := hg2.size
     have hlt0 := fun k e => (HROW.out.own.lt k e).2
     have hin2 : EvIn (fun k => w.heap.size + 1 + 1 + 1 ≤ k ∧ (Value.slice Av es.length cv).ownBlock ≠ some k) w2 ev lv kv := hin.keep (Same.refl _ _) (fun k hk _ => ⟨by have : wr.heap.size ≤ k := hk; omega, fun e => by have h1 := hlt0 k e; have : wr.heap.size ≤ k := hk; omega⟩)
     obtain ⟨A1, c1, A2, c2, rfl, rfl⟩ := hin2.forms
     have hrd2 : rdEvs l (gk - 1 + 1) q (es ++ [ev]) = RES := by
      have := hrd.out
      rw [rdEvs, if_neg hend, if_neg h200, hr] at this
      rw [show gk - 1 + 1 = gk by omega]
      exact this
     have HRD := Lib.hid hrd2
     have HIN := Lib.hid hin2
     clear hin hin2 hrd2 hrd hr hlt0 hg2 HROW HRB HLF HSd
     refine hK.out _ _ (fun _ => LF2.l0) ?_
     clear hK K
     try simp only [zA, zB, zC, Act.put, zD, zE, zF]
     refine zO 3 fun K hK => ?_
     go_simp
     have hb3 : Below w2.heap.size w2 (w2.alloc (.cells (evCells ev (.slice A1 ev.ty.labels.length c1) (.slice A2 ev.ty.kids.length c2)) 32)) := (Below.refl _ _).alloc (Nat.le_refl _) _
     have hz3 : w2.heap.size < (w2.alloc (.cells (evCells ev (.slice A1 ev.ty.labels.length c1) (.slice A2 ev.ty.kids.length c2)) 32)).heap.size := by simp
     have row3 := row2.below hb3
     have hin3 := HIN.out.below hb3
     have hten := ten_new w2 ev (.slice A1 ev.ty.labels.length c1) (.slice A2 ev.ty.kids.length c2) 32
     have LF3 := LF2.keep (hb3.mono (show w.heap.size + 1 + 1 ≤ w2.heap.size by omega)) (by omega)
     have hR3 := hR2.keep hb3
     have hb03 : Below w.heap.size w _ := chain hb2 hb3
     clear row2 HIN LF2 hR2 hb2 hb3
     have HTEN := Lib.hid hten
     have HI3 := Lib.hid hin3
     clear hten hin3
     refine hK.out _ _ (fun _ => LF3.l0) ?_
     clear hK K
     try simp only [zA, zB, zC, Act.put, zD, zE, zF]
     refine zO 4 fun K hK => ?_
     refine step_app rt_evs rfl (.tmp 24) (.tmp 27) rfl (w.heap.size + 1 + 1 + 1) _ es.length xs rfl row3.own ⟨w2.heap.size, 0, none⟩ 1 1 (evList ev (.slice A1 ev.ty.labels.length c1) (.slice A2 ev.ty.kids.length c2)) rfl rfl HTEN.out (by simp [Value.oneCell']) (by unfold maxLen; omega) (by omega) (Nat.le_of_lt (Nat.lt_of_le_of_lt (show w.heap.size + 1 + 1 + 1 ≤ w2.heap.size by omega) hz3)) (fun v' w4 k1 k2 k3 k4 => ?_)
     have row4 := row3.more HI3.out k1 k2 k3
     obtain ⟨Ax, cx, rfl⟩ := own_form k1
     have LF4 := LF3.keep k4 (by omega)
     have hR4 : RBox w4 (w.heap.size + 1 + 1) l q := hR3.keepB k4 (by omega)
     have hb4 : Below w.heap.size w w4 := hb03.trans (k4.mono (by omega))
     have hz4 := k4.size
     clear k1 k2 k3 k4 row3 LF3 hR3 hb03 HTEN HI3
     refine hK.out _ _ (fun _ => LF4.l0) ?_
     clear hK K
     try simp only [zA, zB, zC, Act.put, zD, zE, zF]
     obtain ⟨l0, lz, f0, f1, z0, z1⟩ := id LF4
     refine zO 5 fun K hK => ?_
     go_simp
     refine hK.out _ _ (fun h => absurd h (by decide)) ?_
     clear hK K
     try simp only [zA, zB, zC, Act.put, zD, zE, zF]
     refine wpT_done (by kernel_rfl) ?_
     have LF5 := LF4.set (.slice Ax (es.length + 1) cx)
     have row5 := row4.set (a := ⟨w.heap.size, 0, none⟩) (show w.heap.size < _ by omega) (.slice Ax (es.length + 1) cx)
     have hR5 := hR4.far (a := ⟨w.heap.size, 0, none⟩) (show w.heap.size ≠ _ by omega) (.slice Ax (es.length + 1) cx)
     have hb5 := hb4.setCell (p := ⟨w.heap.size, 0, none⟩) (Nat.le_refl _) (.slice Ax (es.length + 1) cx)
     have hz5 : w.heap.size + 1 + 1 < (w4.setCell ⟨w.heap.size, 0, none⟩ (.slice Ax (es.length + 1) cx)).heap.size := hR5.lt
     generalize w4.setCell ⟨w.heap.size, 0, none⟩ (.slice Ax (es.length + 1) cx) = w5 at LF5 row5 hR5 hb5 hz5 ⊢
     go_wp2_with fail
     go_roundg (gk - 1)
     case measure => omega
     case rel =>
      exact ⟨q, es ++ [ev], _, _, hle.2, by rw [List.length_append]; simp only [List.length_cons, List.length_nil]; omega, HRD, Lib.hid hR5, Lib.hid LF5, row5, hb5, hz5⟩
set_option maxRecDepth 100000
set_option maxHeartbeats 4000000 in
theorem sameType_any : ∀ (m : Nat) (t : Ty) (v v' : Value) (w : World), parts t ≤ m → Fit t → IsTy w v t → IsTy w v' t →
  Calls Tryz.prog 38 #[v, v'] w fun e w' => e = .returned (.bool true) ∧ Below w.heap.size w w' := by
 intro m
 induction m with
 | zero => intro t v v' w h; cases t; simp only [parts] at h; omega
 | succ m ih =>
 intro t v v' w hm hf hv hv'
 obtain ⟨lv, kv, rfl, h1, h2⟩ := hv
 obtain ⟨lv', kv', rfl, h1', h2'⟩ := hv'
 have H1 := Lib.hid h1; have H2 := Lib.hid h2; have H1' := Lib.hid h1'; have H2' := Lib.hid h2'
 obtain ⟨A0, p0, rfl, -, -⟩ := h1
 obtain ⟨A, cap, rfl, -, -⟩ := h2
 obtain ⟨A0', p0', rfl, -, -⟩ := h1'
 obtain ⟨A', cap', rfl, -, -⟩ := h2'
 obtain ⟨f1, f2, f3, f4, f5⟩ := hf.parts
 unfold maxLen at f1 f2 f3 f4
 have HF := Lib.hid f5; clear f5
 have HP : Hid (1 + partss t.kids ≤ m + 1) := by cases t; exact hm
 obtain ⟨ks, hks⟩ : ∃ x, t.kids = x := ⟨_, rfl⟩
 obtain ⟨ls, hls⟩ : ∃ x, t.labels = x := ⟨_, rfl⟩
 rw [hks] at H2 H2' HF HP f4 ⊢
 rw [hls] at H1 H1' f2 f3 ⊢
 obtain ⟨L, hL⟩ : ∃ x, ks.length = x := ⟨_, rfl⟩
 obtain ⟨M, hM⟩ : ∃ x, ls.length = x := ⟨_, rfl⟩
 have HL := Lib.hid hL; have HM := Lib.hid hM; have H3 := Lib.hid f3
 rw [hL] at H2 H2' f4 ⊢
 rw [hM] at H1 H1' f2 ⊢
 clear hL hM hks hls f3
 go_enter Tryz.func38, Tryz.ntmps38
 go_wp2_with fail
 go_loopw [5] (fun i wr => ∃ k : Nat, k ≤ M ∧ i = .int .i64 k ∧ wr.cell? ⟨w.heap.size, 3, none⟩ = some (.slice A0 M p0) ∧ wr.cell? ⟨w.heap.size, 4, none⟩ = some (.slice A L cap) ∧ wr.cell? ⟨w.heap.size + 1, 3, none⟩ = some (.slice A0' M p0') ∧ wr.cell? ⟨w.heap.size + 1, 4, none⟩ = some (.slice A' L cap') ∧ Below w.heap.size w wr) (fun i _ => M - (intOf i).toNat)
 case atStart => exact ⟨0, by omega, rfl, by simp [go_sem], by simp [go_sem], by simp [go_sem], by simp [go_sem], by go_grown⟩
 case round =>
  obtain ⟨k, hk, rfl, x3, x4, y3, y4, hb⟩ := hrel
  by_cases hlt : k < M
  ·obtain ⟨l, hl⟩ : ∃ x, ls[k]? = some x := ⟨_, List.getElem?_eq_getElem (by rw [HM.out]; exact hlt)⟩
   have hll := H3.out l (mem_of_at hl)
   obtain ⟨_, _, el, _, hlr⟩ := H1.out.keep hb
   obtain ⟨lb, loff, rfl, hrow⟩ := hlr (by rw [HM.out]; omega)
   injection el with el1 el2 el3
   obtain ⟨_, _, el', _, hlr'⟩ := H1'.out.keep hb
   obtain ⟨lb', loff', rfl, hrow'⟩ := hlr' (by rw [HM.out]; omega)
   injection el' with el1' el2' el3'
   subst el1 el1'
   have c1 := hrow k l hl
   have c2 := hrow' k l hl
   clear el2 el3 el2' el3' hlr hlr' hrow hrow' hl
   go_wp2_with fail
   have hS : ∀ w' : World, Below wr.heap.size wr w' → (fun w' : World => w'.cell? ⟨w.heap.size, 3, none⟩ = some (.slice (some ⟨lb, loff, none⟩) M p0) ∧ w'.cell? ⟨w.heap.size + 1, 3, none⟩ = some (.slice (some ⟨lb', loff', none⟩) M p0') ∧ w'.cell? ⟨lb, loff + k, none⟩ = some (.string ⟨l.toArray⟩) ∧ w'.cell? ⟨lb', loff' + k, none⟩ = some (.string ⟨l.toArray⟩)) w' := fun w' h => ⟨cell_keep x3 h, cell_keep y3 h, cell_keep c1 h, cell_keep c2 h⟩
   have HSd := Lib.hid (hS wr.drew (Below.refl _ _).drew)
   clear hS
   refine wp_region_T 11 (fun w' : World => w'.cell? ⟨w.heap.size, 3, none⟩ = some (.slice (some ⟨lb, loff, none⟩) M p0) ∧ w'.cell? ⟨w.heap.size + 1, 3, none⟩ = some (.slice (some ⟨lb', loff', none⟩) M p0') ∧ w'.cell? ⟨lb, loff + k, none⟩ = some (.string ⟨l.toArray⟩) ∧ w'.cell? ⟨lb', loff' + k, none⟩ = some (.string ⟨l.toArray⟩)) (by kernel_rfl) ?_
   refine zT 0 ?_ rfl (Or.inl ⟨by rfl, ?_⟩) HSd.out ?_
   rotate_left
   ·(intro wq hSw; obtain ⟨_,_,_,_⟩ := hSw; go_simp; all_goals (first | (with_reducible rfl) | (rw [zI])))
   simp only [zA, zB, zC, Act.put, zD, zE, zF]
   refine zT 1 ?_ rfl (Or.inl ⟨by rfl, ?_⟩) HSd.out ?_
   rotate_left
   ·(intro wq hSw; obtain ⟨_,_,_,_⟩ := hSw; go_simp; all_goals (first | (with_reducible rfl) | (rw [zI])))
   simp only [zA, zB, zC, Act.put, zD, zE, zF]
   refine zT 2 ?_ rfl (Or.inl ⟨by rfl, ?_⟩) HSd.out ?_
   rotate_left
   ·(intro wq hSw; obtain ⟨_,_,_,_⟩ := hSw; go_simp; all_goals (first | (with_reducible rfl) | (rw [zI])))
   simp only [zA, zB, zC, Act.put, zD, zE, zF]
   refine zT 3 ?_ rfl (Or.inl ⟨by rfl, ?_⟩) HSd.out ?_
   rotate_left
   ·(intro wq hSw; obtain ⟨_,_,_,_⟩ := hSw; go_simp; all_goals (first | (with_reducible rfl) | (rw [zI])))
   simp only [zA, zB, zC, Act.put, zD, zE, zF]
   refine zT 4 ?_ rfl (Or.inl ⟨by rfl, ?_⟩) HSd.out ?_
   rotate_left
   ·(intro wq hSw; obtain ⟨_,_,_,_⟩ := hSw; go_simp; all_goals (first | (with_reducible rfl) | (rw [zI])))
   simp only [zA, zB, zC, Act.put, zD, zE, zF]
   refine zT 5 ?_ rfl (Or.inl ⟨by rfl, ?_⟩) HSd.out ?_
   rotate_left
   ·(intro wq hSw; obtain ⟨_,_,_,_⟩ := hSw; go_simp; all_goals (first | (with_reducible rfl) | (rw [zI])))
   simp only [zA, zB, zC, Act.put, zD, zE, zF]
   refine zT 6 ?_ rfl (Or.inl ⟨by rfl, ?_⟩) HSd.out ?_
   rotate_left
   ·(intro wq hSw; obtain ⟨_,_,_,_⟩ := hSw; go_simp; all_goals (first | (with_reducible rfl) | (rw [zI])))
   simp only [zA, zB, zC, Act.put, zD, zE, zF]
   refine zT 7 ?_ rfl (Or.inl ⟨by rfl, ?_⟩) HSd.out ?_
   rotate_left
   ·(intro wq hSw; obtain ⟨_,_,_,_⟩ := hSw; go_simp; all_goals (first | (with_reducible rfl) | (rw [zI])))
   simp only [zA, zB, zC, Act.put, zD, zE, zF]
   refine zT 8 ?_ rfl (Or.inl ⟨by rfl, ?_⟩) HSd.out ?_
   rotate_left
   ·(intro wq hSw; obtain ⟨_,_,_,_⟩ := hSw; go_simp; all_goals (first | (with_reducible rfl) | (rw [zI])))
   simp only [zA, zB, zC, Act.put, zD, zE, zF]
   refine zT 9 ?_ rfl (Or.inl ⟨by rfl, ?_⟩) HSd.out ?_
   rotate_left
   ·(intro wq hSw; obtain ⟨_,_,_,_⟩ := hSw; go_simp; all_goals (first | (with_reducible rfl) | (rw [zI])))
   simp only [zA, zB, zC, Act.put, zD, zE, zF]
   refine zT 10 ?_ rfl (Or.inl ⟨by rfl, ?_⟩) HSd.out ?_
   rotate_left
   ·(intro wq hSw; obtain ⟨_,_,_,_⟩ := hSw; go_simp; all_goals (first | (with_reducible rfl) | (rw [zI])))
   simp only [zA, zB, zC, Act.put, zD, zE, zF]
   refine wpT_done (by kernel_rfl) ?_
   go_wp2_with fail
   go_roundw
   case rel => exact ⟨k + 1, by omega, by go_num, x3, x4, y3, y4, hb.drew⟩
   case measure => simp [intOf]; omega
  ·obtain rfl : k = M := by omega
   clear hlt
   go_wp2_with fail
   go_loopw [6] (fun i wr => ∃ k : Nat, k ≤ L ∧ i = .int .i64 k ∧ wr.cell? ⟨w.heap.size, 4, none⟩ = some (.slice A L cap) ∧ wr.cell? ⟨w.heap.size + 1, 4, none⟩ = some (.slice A' L cap') ∧ Below w.heap.size w wr) (fun i _ => L - (intOf i).toNat)
   case atStart => exact ⟨0, by omega, rfl, x4, y4, hb⟩
   case round =>
    clear x3 x4 y3 y4 hb
    obtain ⟨k, hk, rfl, x4, y4, hb⟩ := hrel
    by_cases hlt : k < L
    ·obtain ⟨c, hc⟩ : ∃ x, ks[k]? = some x := ⟨_, List.getElem?_eq_getElem (by rw [HL.out]; exact hlt)⟩
     have HC := Lib.hid hc
     obtain ⟨-, -, b, off, A1, n1, q1, A2, n2, q2, rfl, c0, c1, c2, c3, c4, hl', hk'⟩ := kid_at (H2.out.keep hb) hc
     obtain ⟨-, -, b', off', A3, n3, q3, A4, n4, q4, rfl, d0, d1, d2, d3, d4, hl2, hk2⟩ := kid_at (H2'.out.keep hb) hc
     have hcp : parts c ≤ m := by have h1 := parts_at (mem_of_at HC.out); have h2 := HP.out; omega
     have hcall := fun wq (h : Below wr.heap.size wr wq) => ih c (.agg #[.int .i64 c.kind, .int .i64 c.sort, .string ⟨c.name.toArray⟩, .slice A1 n1 q1, .slice A2 n2 q2]) (.agg #[.int .i64 c.kind, .int .i64 c.sort, .string ⟨c.name.toArray⟩, .slice A3 n3 q3, .slice A4 n4 q4]) wq hcp (HF.out c (mem_of_at HC.out)) ((isTy_of hl' hk').keep h) ((isTy_of hl2 hk2).keep h)
     have HCL := Lib.hid hcall
     clear hl' hk' hl2 hk2 hc hcall
     go_wp2_with fail
     have hS : ∀ w' : World, Below wr.heap.size wr w' → (fun w' : World => w'.cell? ⟨w.heap.size, 4, none⟩ = some (.slice (some ⟨b, off, none⟩) L cap) ∧ w'.cell? ⟨w.heap.size + 1, 4, none⟩ = some (.slice (some ⟨b', off', none⟩) L cap') ∧ w'.cell? ⟨b, off + k * 5, none⟩ = some (.int .i64 c.kind) ∧ w'.cell? ⟨b, off + k * 5 + 1, none⟩ = some (.int .i64 c.sort) ∧ w'.cell? ⟨b, off + k * 5 + 2, none⟩ = some (.string ⟨c.name.toArray⟩) ∧ w'.cell? ⟨b, off + k * 5 + 3, none⟩ = some (.slice A1 n1 q1) ∧ w'.cell? ⟨b, off + k * 5 + 4, none⟩ = some (.slice A2 n2 q2) ∧ w'.cell? ⟨b', off' + k * 5, none⟩ = some (.int .i64 c.kind) ∧ w'.cell? ⟨b', off' + k * 5 + 1, none⟩ = some (.int .i64 c.sort) ∧ w'.cell? ⟨b', off' + k * 5 + 2, none⟩ = some (.string ⟨c.name.toArray⟩) ∧ w'.cell? ⟨b', off' + k * 5 + 3, none⟩ = some (.slice A3 n3 q3) ∧ w'.cell? ⟨b', off' + k * 5 + 4, none⟩ = some (.slice A4 n4 q4)) w' := fun w' h => ⟨cell_keep x4 h, cell_keep y4 h, cell_keep c0 h, cell_keep c1 h, cell_keep c2 h, cell_keep c3 h, cell_keep c4 h, cell_keep d0 h, cell_keep d1 h, cell_keep d2 h, cell_keep d3 h, cell_keep d4 h⟩
     have HSd := Lib.hid (hS wr.drew (Below.refl _ _).drew)
     have HSB := Lib.hid hS; clear hS
     refine wp_region_T 12 (fun w' : World => w'.cell? ⟨w.heap.size, 4, none⟩ = some (.slice (some ⟨b, off, none⟩) L cap) ∧ w'.cell? ⟨w.heap.size + 1, 4, none⟩ = some (.slice (some ⟨b', off', none⟩) L cap') ∧ w'.cell? ⟨b, off + k * 5, none⟩ = some (.int .i64 c.kind) ∧ w'.cell? ⟨b, off + k * 5 + 1, none⟩ = some (.int .i64 c.sort) ∧ w'.cell? ⟨b, off + k * 5 + 2, none⟩ = some (.string ⟨c.name.toArray⟩) ∧ w'.cell? ⟨b, off + k * 5 + 3, none⟩ = some (.slice A1 n1 q1) ∧ w'.cell? ⟨b, off + k * 5 + 4, none⟩ = some (.slice A2 n2 q2) ∧ w'.cell? ⟨b', off' + k * 5, none⟩ = some (.int .i64 c.kind) ∧ w'.cell? ⟨b', off' + k * 5 + 1, none⟩ = some (.int .i64 c.sort) ∧ w'.cell? ⟨b', off' + k * 5 + 2, none⟩ = some (.string ⟨c.name.toArray⟩) ∧ w'.cell? ⟨b', off' + k * 5 + 3, none⟩ = some (.slice A3 n3 q3) ∧ w'.cell? ⟨b', off' + k * 5 + 4, none⟩ = some (.slice A4 n4 q4)) (by kernel_rfl) ?_
     refine zT 0 ?_ rfl (Or.inl ⟨by rfl, ?_⟩) HSd.out ?_
     rotate_left
     ·(intro wq hSw; obtain ⟨_,_,_,_,_,_,_,_,_,_,_,_⟩ := hSw; go_simp; all_goals (first | (with_reducible rfl) | (rw [zI])))
     simp only [zA, zB, zC, Act.put, zD, zE, zF]
     refine zT 1 ?_ rfl (Or.inl ⟨by rfl, ?_⟩) HSd.out ?_
     rotate_left
     ·(intro wq hSw; obtain ⟨_,_,_,_,_,_,_,_,_,_,_,_⟩ := hSw; go_simp; all_goals (first | (with_reducible rfl) | (rw [zI])))
     simp only [zA, zB, zC, Act.put, zD, zE, zF]
     refine zT 2 ?_ rfl (Or.inl ⟨by rfl, ?_⟩) HSd.out ?_
     rotate_left
     ·(intro wq hSw; obtain ⟨_,_,_,_,_,_,_,_,_,_,_,_⟩ := hSw; go_simp; all_goals (first | (with_reducible rfl) | (rw [zI])))
     simp only [zA, zB, zC, Act.put, zD, zE, zF]
     refine zT 3 ?_ rfl (Or.inl ⟨by rfl, ?_⟩) HSd.out ?_
     rotate_left
     ·(intro wq hSw; obtain ⟨_,_,_,_,_,_,_,_,_,_,_,_⟩ := hSw; go_simp; all_goals (first | (with_reducible rfl) | (rw [zI])))
     simp only [zA, zB, zC, Act.put, zD, zE, zF]
     refine zT 4 ?_ rfl (Or.inl ⟨by rfl, ?_⟩) HSd.out ?_
     rotate_left
     ·(intro wq hSw; obtain ⟨_,_,_,_,_,_,_,_,_,_,_,_⟩ := hSw; go_simp; all_goals (first | (with_reducible rfl) | (rw [zI])))
     simp only [zA, zB, zC, Act.put, zD, zE, zF]
     refine zT 5 ?_ rfl (Or.inl ⟨by rfl, ?_⟩) HSd.out ?_
     rotate_left
     ·(intro wq hSw; obtain ⟨_,_,_,_,_,_,_,_,_,_,_,_⟩ := hSw; go_simp; all_goals (first | (with_reducible rfl) | (rw [zI])))
     simp only [zA, zB, zC, Act.put, zD, zE, zF]
     refine zT 6 ?_ rfl (Or.inl ⟨by rfl, ?_⟩) HSd.out ?_
     rotate_left
     ·(intro wq hSw; obtain ⟨_,_,_,_,_,_,_,_,_,_,_,_⟩ := hSw; go_simp; all_goals (first | (with_reducible rfl) | (rw [zI])))
     simp only [zA, zB, zC, Act.put, zD, zE, zF]
     refine zT 7 ?_ rfl (Or.inl ⟨by rfl, ?_⟩) HSd.out ?_
     rotate_left
     ·(intro wq hSw; obtain ⟨_,_,_,_,_,_,_,_,_,_,_,_⟩ := hSw; go_simp; all_goals (first | (with_reducible rfl) | (rw [zI])))
     simp only [zA, zB, zC, Act.put, zD, zE, zF]
     refine zT 8 ?_ rfl (Or.inl ⟨by rfl, ?_⟩) HSd.out ?_
     rotate_left
     ·(intro wq hSw; obtain ⟨_,_,_,_,_,_,_,_,_,_,_,_⟩ := hSw; go_simp; all_goals (first | (with_reducible rfl) | (rw [zI])))
     simp only [zA, zB, zC, Act.put, zD, zE, zF]
     refine zT 9 ?_ rfl (Or.inl ⟨by rfl, ?_⟩) HSd.out ?_
     rotate_left
     ·(intro wq hSw; obtain ⟨_,_,_,_,_,_,_,_,_,_,_,_⟩ := hSw; go_simp; all_goals (first | (with_reducible rfl) | (rw [zI])))
     simp only [zA, zB, zC, Act.put, zD, zE, zF]
     refine zO 10 fun K hK => ?_
     go_simp
     refine (HCL.out wr.drew (Below.refl _ _).drew).mono ?_; rintro e w1 ⟨rfl, hq⟩
     have hb1 : Below wr.heap.size wr w1 := chain (Below.refl wr.heap.size wr).drew hq
     clear hq
     refine hK.out _ _ (fun _ => HSB.out _ hb1) ?_
     clear hK K
     try simp only [zA, zB, zC, Act.put, zD, zE, zF]
     refine zO 11 fun K hK => ?_
     go_simp
     refine hK.out _ _ (fun _ => HSB.out _ hb1) ?_
     clear hK K
     try simp only [zA, zB, zC, Act.put, zD, zE, zF]
     refine wpT_done (by kernel_rfl) ?_
     go_wp2_with fail
     go_roundw
     case rel => exact ⟨k + 1, by omega, by go_num, cell_keep x4 hb1, cell_keep y4 hb1, chain hb hb1⟩
     case measure => simp [intOf]; omega
    ·go_wp2_with fail
     go_ret
     exact ⟨rfl, hb⟩
set_option maxRecDepth 100000
theorem run_neqv (w : World) (s n : Int) (t : Str) :
  (binOp .neq 26 (.agg #[.int .i64 s, .int .i64 n, .string ⟨t.toArray⟩]) (.agg #[.int .i64 s, .int .i64 n, .string ⟨t.toArray⟩])).run Tryz.prog w = .ok (.bool false) w := by
 simp [go_sem]
set_option maxHeartbeats 16000000 in
theorem sameEvs_any (es : List Ev) (v v' : Value) (w : World) (hl : es.length ≤ 1048576) (hf : ∀ e ∈ es, Fit e.ty) (hv : EvsD All w v es) (hv' : EvsD All w v' es) :
  Calls Tryz.prog 12 #[v, v'] w fun r w' => r = .returned (.bool true) ∧ Below w.heap.size w w' := by
 have HV := Lib.hid hv
 have HV' := Lib.hid hv'
 obtain ⟨A, cp, rfl, -, -, -⟩ := hv
 obtain ⟨A', cp', rfl, -, -, -⟩ := hv'
 have HF := Lib.hid hf
 obtain ⟨L, hL⟩ : ∃ L, es.length = L := ⟨_, rfl⟩
 have HL := Lib.hid hL
 rw [hL] at HV HV' hl ⊢
 clear hL hf
 go_enter Tryz.func12, Tryz.ntmps12
 go_wp2_with fail
 go_loopw [5] (fun i wr => ∃ k : Nat, k ≤ L ∧ i = .int .i64 k ∧ Below w.heap.size w wr) (fun i _ => L - (intOf i).toNat)
 case atStart => exact ⟨0, by omega, rfl, Below.refl _ _⟩
 case round =>
  obtain ⟨k, hk, rfl, hb⟩ := hrel
  by_cases hlt : k < L
  ·have hlt' : (k : Int) < (L : Int) := by omega
   obtain ⟨e, he⟩ : ∃ x, es[k]? = some x := ⟨_, List.getElem?_eq_getElem (by rw [HL.out]; exact hlt)⟩
   have hfe := HF.out e (mem_of_at he)
   obtain ⟨b, off, lv, kv, rfl, -, hc, hi⟩ := (HV.out.below hb).at he
   obtain ⟨b', off', lv', kv', rfl, -, hc', hi'⟩ := (HV'.out.below hb).at he
   have HI := Lib.hid hi.ty.is
   have HI' := Lib.hid hi'.ty.is
   obtain ⟨A1, n1, A2, n2, rfl, rfl⟩ := hi.forms
   obtain ⟨A3, n3, A4, n4, rfl, rfl⟩ := hi'.forms
   have hcall := fun wq (h : Below wr.heap.size wr wq) => sameType_any (parts e.ty) e.ty _ _ wq (Nat.le_refl _) hfe (HI.out.keep h) (HI'.out.keep h)
   have HCL := Lib.hid hcall
   obtain ⟨c0, c1, c2, c3, c4, c5, c6, c7, c8, c9⟩ := hc
   obtain ⟨d0, d1, d2, d3, d4, d5, d6, d7, d8, d9⟩ := hc'
   clear hi hi' he hfe hcall HI HI'
   have hneq := fun w => run_neqv w e.vs e.vn e.vt
   obtain ⟨ki, vs, vn, vt, ty, lab⟩ := e
   simp only at c0 c1 c2 c3 c4 c5 c6 c7 c8 c9 d0 d1 d2 d3 d4 d5 d6 d7 d8 d9 HCL hneq
   go_wp2_with fail
   have hS : ∀ w' : World, Below wr.heap.size wr w' → (fun w' : World => w'.cell? ⟨b, off + k * 10, none⟩ = some (.int .i64 ki) ∧ w'.cell? ⟨b, off + k * 10 + 1, none⟩ = some (.int .i64 vs) ∧ w'.cell? ⟨b, off + k * 10 + 2, none⟩ = some (.int .i64 vn) ∧ w'.cell? ⟨b, off + k * 10 + 3, none⟩ = some (.string ⟨vt.toArray⟩) ∧ w'.cell? ⟨b, off + k * 10 + 4, none⟩ = some (.int .i64 ty.kind) ∧ w'.cell? ⟨b, off + k * 10 + 5, none⟩ = some (.int .i64 ty.sort) ∧ w'.cell? ⟨b, off + k * 10 + 6, none⟩ = some (.string ⟨ty.name.toArray⟩) ∧ w'.cell? ⟨b, off + k * 10 + 7, none⟩ = some (.slice A1 ty.labels.length n1) ∧ w'.cell? ⟨b, off + k * 10 + 8, none⟩ = some (.slice A2 ty.kids.length n2) ∧ w'.cell? ⟨b, off + k * 10 + 9, none⟩ = some (.string ⟨lab.toArray⟩) ∧ w'.cell? ⟨b', off' + k * 10, none⟩ = some (.int .i64 ki) ∧ w'.cell? ⟨b', off' + k * 10 + 1, none⟩ = some (.int .i64 vs) ∧ w'.cell? ⟨b', off' + k * 10 + 2, none⟩ = some (.int .i64 vn) ∧ w'.cell? ⟨b', off' + k * 10 + 3, none⟩ = some (.string ⟨vt.toArray⟩) ∧ w'.cell? ⟨b', off' + k * 10 + 4, none⟩ = some (.int .i64 ty.kind) ∧ w'.cell? ⟨b', off' + k * 10 + 5, none⟩ = some (.int .i64 ty.sort) ∧ w'.cell? ⟨b', off' + k * 10 + 6, none⟩ = some (.string ⟨ty.name.toArray⟩) ∧ w'.cell? ⟨b', off' + k * 10 + 7, none⟩ = some (.slice A3 ty.labels.length n3) ∧ w'.cell? ⟨b', off' + k * 10 + 8, none⟩ = some (.slice A4 ty.kids.length n4) ∧ w'.cell? ⟨b', off' + k * 10 + 9, none⟩ = some (.string ⟨lab.toArray⟩)) w' := fun w' h => ⟨cell_keep c0 h, cell_keep c1 h, cell_keep c2 h, cell_keep c3 h, cell_keep c4 h, cell_keep c5 h, cell_keep c6 h, cell_keep c7 h, cell_keep c8 h, cell_keep c9 h, cell_keep d0 h, cell_keep d1 h, cell_keep d2 h, cell_keep d3 h, cell_keep d4 h, cell_keep d5 h, cell_keep d6 h, cell_keep d7 h, cell_keep d8 h, cell_keep d9 h⟩
   have HSd := Lib.hid (hS wr.drew (Below.refl _ _).drew)
   have HSB := Lib.hid hS; clear hS
   refine wp_region_T 51 (fun w' : World => w'.cell? ⟨b, off + k * 10, none⟩ = some (.int .i64 ki) ∧ w'.cell? ⟨b, off + k * 10 + 1, none⟩ = some (.int .i64 vs) ∧ w'.cell? ⟨b, off + k * 10 + 2, none⟩ = some (.int .i64 vn) ∧ w'.cell? ⟨b, off + k * 10 + 3, none⟩ = some (.string ⟨vt.toArray⟩) ∧ w'.cell? ⟨b, off + k * 10 + 4, none⟩ = some (.int .i64 ty.kind) ∧ w'.cell? ⟨b, off + k * 10 + 5, none⟩ = some (.int .i64 ty.sort) ∧ w'.cell? ⟨b, off + k * 10 + 6, none⟩ = some (.string ⟨ty.name.toArray⟩) ∧ w'.cell? ⟨b, off + k * 10 + 7, none⟩ = some (.slice A1 ty.labels.length n1) ∧ w'.cell? ⟨b, off + k * 10 + 8, none⟩ = some (.slice A2 ty.kids.length n2) ∧ w'.cell? ⟨b, off + k * 10 + 9, none⟩ = some (.string ⟨lab.toArray⟩) ∧ w'.cell? ⟨b', off' + k * 10, none⟩ = some (.int .i64 ki) ∧ w'.cell? ⟨b', off' + k * 10 + 1, none⟩ = some (.int .i64 vs) ∧ w'.cell? ⟨b', off' + k * 10 + 2, none⟩ = some (.int .i64 vn) ∧ w'.cell? ⟨b', off' + k * 10 + 3, none⟩ = some (.string ⟨vt.toArray⟩) ∧ w'.cell? ⟨b', off' + k * 10 + 4, none⟩ = some (.int .i64 ty.kind) ∧ w'.cell? ⟨b', off' + k * 10 + 5, none⟩ = some (.int .i64 ty.sort) ∧ w'.cell? ⟨b', off' + k * 10 + 6, none⟩ = some (.string ⟨ty.name.toArray⟩) ∧ w'.cell? ⟨b', off' + k * 10 + 7, none⟩ = some (.slice A3 ty.labels.length n3) ∧ w'.cell? ⟨b', off' + k * 10 + 8, none⟩ = some (.slice A4 ty.kids.length n4) ∧ w'.cell? ⟨b', off' + k * 10 + 9, none⟩ = some (.string ⟨lab.toArray⟩)) (by kernel_rfl) ?_
   refine zT 0 ?_ rfl (Or.inl ⟨by rfl, ?_⟩) HSd.out ?_
   rotate_left
   ·(intro wq hSw; obtain ⟨_,_,_,_,_,_,_,_,_,_,_,_,_,_,_,_,_,_,_,_⟩ := hSw; go_simp; all_goals (first | (with_reducible rfl) | (rw [zI])))
   simp only [zA, zB, zC, Act.put, zD, zE, zF]
   refine zT 1 ?_ rfl (Or.inl ⟨by rfl, ?_⟩) HSd.out ?_
   rotate_left
   ·(intro wq hSw; obtain ⟨_,_,_,_,_,_,_,_,_,_,_,_,_,_,_,_,_,_,_,_⟩ := hSw; go_simp; all_goals (first | (with_reducible rfl) | (rw [zI])))
   simp only [zA, zB, zC, Act.put, zD, zE, zF]
   refine zT 2 ?_ rfl (Or.inl ⟨by rfl, ?_⟩) HSd.out ?_
   rotate_left
   ·(intro wq hSw; obtain ⟨_,_,_,_,_,_,_,_,_,_,_,_,_,_,_,_,_,_,_,_⟩ := hSw; go_simp; all_goals (first | (with_reducible rfl) | (rw [zI])))
   simp only [zA, zB, zC, Act.put, zD, zE, zF]
   refine zT 3 ?_ rfl (Or.inl ⟨by rfl, ?_⟩) HSd.out ?_
   rotate_left
   ·(intro wq hSw; obtain ⟨_,_,_,_,_,_,_,_,_,_,_,_,_,_,_,_,_,_,_,_⟩ := hSw; go_simp; all_goals (first | (with_reducible rfl) | (rw [zI])))
   simp only [zA, zB, zC, Act.put, zD, zE, zF]
   refine zT 4 ?_ rfl (Or.inl ⟨by rfl, ?_⟩) HSd.out ?_
   rotate_left
   ·(intro wq hSw; obtain ⟨_,_,_,_,_,_,_,_,_,_,_,_,_,_,_,_,_,_,_,_⟩ := hSw; go_simp; all_goals (first | (with_reducible rfl) | (rw [zI])))
   simp only [zA, zB, zC, Act.put, zD, zE, zF]
   refine zT 5 ?_ rfl (Or.inl ⟨by rfl, ?_⟩) HSd.out ?_
   rotate_left
   ·(intro wq hSw; obtain ⟨_,_,_,_,_,_,_,_,_,_,_,_,_,_,_,_,_,_,_,_⟩ := hSw; go_simp; all_goals (first | (with_reducible rfl) | (rw [zI])))
   simp only [zA, zB, zC, Act.put, zD, zE, zF]
   refine zT 6 ?_ rfl (Or.inl ⟨by rfl, ?_⟩) HSd.out ?_
   rotate_left
   ·(intro wq hSw; obtain ⟨_,_,_,_,_,_,_,_,_,_,_,_,_,_,_,_,_,_,_,_⟩ := hSw; go_simp; all_goals (first | (with_reducible rfl) | (rw [zI])))
   simp only [zA, zB, zC, Act.put, zD, zE, zF]
   refine zT 7 ?_ rfl (Or.inl ⟨by rfl, ?_⟩) HSd.out ?_
   rotate_left
   ·(intro wq hSw; obtain ⟨_,_,_,_,_,_,_,_,_,_,_,_,_,_,_,_,_,_,_,_⟩ := hSw; go_simp; all_goals (first | (with_reducible rfl) | (rw [zI])))
   simp only [zA, zB, zC, Act.put, zD, zE, zF]
   refine zT 8 ?_ rfl (Or.inl ⟨by rfl, ?_⟩) HSd.out ?_
   rotate_left
   ·(intro wq hSw; obtain ⟨_,_,_,_,_,_,_,_,_,_,_,_,_,_,_,_,_,_,_,_⟩ := hSw; go_simp; all_goals (first | (with_reducible rfl) | (rw [zI])))
   simp only [zA, zB, zC, Act.put, zD, zE, zF]
   refine zT 9 ?_ rfl (Or.inl ⟨by rfl, ?_⟩) HSd.out ?_
   rotate_left
   ·(intro wq hSw; obtain ⟨_,_,_,_,_,_,_,_,_,_,_,_,_,_,_,_,_,_,_,_⟩ := hSw; go_simp; all_goals (first | (with_reducible rfl) | (rw [zI])))
   simp only [zA, zB, zC, Act.put, zD, zE, zF]
   refine zT 10 ?_ rfl (Or.inl ⟨by rfl, ?_⟩) HSd.out ?_
   rotate_left
   ·(intro wq hSw; obtain ⟨_,_,_,_,_,_,_,_,_,_,_,_,_,_,_,_,_,_,_,_⟩ := hSw; go_simp; all_goals (first | (with_reducible rfl) | (rw [zI])))
   simp only [zA, zB, zC, Act.put, zD, zE, zF]
   refine zT 11 ?_ rfl (Or.inl ⟨by rfl, ?_⟩) HSd.out ?_
   rotate_left
   ·(intro wq hSw; obtain ⟨_,_,_,_,_,_,_,_,_,_,_,_,_,_,_,_,_,_,_,_⟩ := hSw; go_simp; all_goals (first | (with_reducible rfl) | (rw [zI])))
   simp only [zA, zB, zC, Act.put, zD, zE, zF]
   refine zT 12 ?_ rfl (Or.inl ⟨by rfl, ?_⟩) HSd.out ?_
   rotate_left
   ·(intro wq hSw; obtain ⟨_,_,_,_,_,_,_,_,_,_,_,_,_,_,_,_,_,_,_,_⟩ := hSw; go_simp; all_goals (first | (with_reducible rfl) | (rw [zI])))
   simp only [zA, zB, zC, Act.put, zD, zE, zF]
   refine zT 13 ?_ rfl (Or.inl ⟨by rfl, ?_⟩) HSd.out ?_
   rotate_left
   ·(intro wq hSw; obtain ⟨_,_,_,_,_,_,_,_,_,_,_,_,_,_,_,_,_,_,_,_⟩ := hSw; go_simp; all_goals (first | (with_reducible rfl) | (rw [zI])))
   simp only [zA, zB, zC, Act.put, zD, zE, zF]
   refine zT 14 ?_ rfl (Or.inl ⟨by rfl, ?_⟩) HSd.out ?_
   rotate_left
   ·(intro wq hSw; obtain ⟨_,_,_,_,_,_,_,_,_,_,_,_,_,_,_,_,_,_,_,_⟩ := hSw; go_simp; all_goals (first | (with_reducible rfl) | (rw [zI])))
   simp only [zA, zB, zC, Act.put, zD, zE, zF]
   refine zT 15 ?_ rfl (Or.inl ⟨by rfl, ?_⟩) HSd.out ?_
   rotate_left
   ·(intro wq hSw; obtain ⟨_,_,_,_,_,_,_,_,_,_,_,_,_,_,_,_,_,_,_,_⟩ := hSw; go_simp; all_goals (first | (with_reducible rfl) | (rw [zI])))
   simp only [zA, zB, zC, Act.put, zD, zE, zF]
   refine zT 16 ?_ rfl (Or.inl ⟨by rfl, ?_⟩) HSd.out ?_
   rotate_left
   ·(intro wq hSw; obtain ⟨_,_,_,_,_,_,_,_,_,_,_,_,_,_,_,_,_,_,_,_⟩ := hSw; go_simp; all_goals (first | (with_reducible rfl) | (rw [zI])))
   simp only [zA, zB, zC, Act.put, zD, zE, zF]
   refine zT 17 ?_ rfl (Or.inl ⟨by rfl, ?_⟩) HSd.out ?_
   rotate_left
   ·(intro wq hSw; obtain ⟨_,_,_,_,_,_,_,_,_,_,_,_,_,_,_,_,_,_,_,_⟩ := hSw; go_simp; all_goals (first | (with_reducible rfl) | (rw [zI])))
   simp only [zA, zB, zC, Act.put, zD, zE, zF]
   refine zT 18 ?_ rfl (Or.inl ⟨by rfl, ?_⟩) HSd.out ?_
   rotate_left
   ·(intro wq hSw; obtain ⟨_,_,_,_,_,_,_,_,_,_,_,_,_,_,_,_,_,_,_,_⟩ := hSw; go_simp; all_goals (first | (with_reducible rfl) | (rw [zI])))
   simp only [zA, zB, zC, Act.put, zD, zE, zF]
   refine zT 19 ?_ rfl (Or.inl ⟨by rfl, ?_⟩) HSd.out ?_
   rotate_left
   ·(intro wq hSw; obtain ⟨_,_,_,_,_,_,_,_,_,_,_,_,_,_,_,_,_,_,_,_⟩ := hSw; go_simp; all_goals (first | (with_reducible rfl) | (rw [zI])))
   simp only [zA, zB, zC, Act.put, zD, zE, zF]
   refine zT 20 ?_ rfl (Or.inl ⟨by rfl, ?_⟩) HSd.out ?_
   rotate_left
   ·(intro wq hSw; obtain ⟨_,_,_,_,_,_,_,_,_,_,_,_,_,_,_,_,_,_,_,_⟩ := hSw; go_simp; all_goals (first | (with_reducible rfl) | (rw [zI])))
   simp only [zA, zB, zC, Act.put, zD, zE, zF]
   refine zT 21 ?_ rfl (Or.inl ⟨by rfl, ?_⟩) HSd.out ?_
   rotate_left
   ·(intro wq hSw; obtain ⟨_,_,_,_,_,_,_,_,_,_,_,_,_,_,_,_,_,_,_,_⟩ := hSw; go_simp; all_goals (first | (with_reducible rfl) | (rw [zI])))
   simp only [zA, zB, zC, Act.put, zD, zE, zF]
   refine zT 22 ?_ rfl (Or.inl ⟨by rfl, ?_⟩) HSd.out ?_
   rotate_left
   ·(intro wq hSw; obtain ⟨_,_,_,_,_,_,_,_,_,_,_,_,_,_,_,_,_,_,_,_⟩ := hSw; go_simp; all_goals (first | (with_reducible rfl) | (rw [zI])))
   simp only [zA, zB, zC, Act.put, zD, zE, zF]
   refine zT 23 ?_ rfl (Or.inl ⟨by rfl, ?_⟩) HSd.out ?_
   rotate_left
   ·(intro wq hSw; obtain ⟨_,_,_,_,_,_,_,_,_,_,_,_,_,_,_,_,_,_,_,_⟩ := hSw; go_simp; all_goals (first | (with_reducible rfl) | (rw [zI])))
   simp only [zA, zB, zC, Act.put, zD, zE, zF]
   refine zT 24 ?_ rfl (Or.inl ⟨by rfl, ?_⟩) HSd.out ?_
   rotate_left
   ·(intro wq hSw; obtain ⟨_,_,_,_,_,_,_,_,_,_,_,_,_,_,_,_,_,_,_,_⟩ := hSw; go_simp; all_goals (first | (with_reducible rfl) | (rw [zI])))
   simp only [zA, zB, zC, Act.put, zD, zE, zF]
   refine zT 25 ?_ rfl (Or.inl ⟨by rfl, ?_⟩) HSd.out ?_
   rotate_left
   ·(intro wq hSw; obtain ⟨_,_,_,_,_,_,_,_,_,_,_,_,_,_,_,_,_,_,_,_⟩ := hSw; go_simp; all_goals (first | (with_reducible rfl) | (rw [zI])))
   simp only [zA, zB, zC, Act.put, zD, zE, zF]
   refine zT 26 ?_ rfl (Or.inl ⟨by rfl, ?_⟩) HSd.out ?_
   rotate_left
   ·(intro wq hSw; obtain ⟨_,_,_,_,_,_,_,_,_,_,_,_,_,_,_,_,_,_,_,_⟩ := hSw; go_simp; all_goals (first | (with_reducible rfl) | (rw [zI])))
   simp only [zA, zB, zC, Act.put, zD, zE, zF]
   refine zT 27 ?_ rfl (Or.inl ⟨by rfl, ?_⟩) HSd.out ?_
   rotate_left
   ·(intro wq hSw; obtain ⟨_,_,_,_,_,_,_,_,_,_,_,_,_,_,_,_,_,_,_,_⟩ := hSw; go_simp; all_goals (first | (with_reducible rfl) | (rw [zI])))
   simp only [zA, zB, zC, Act.put, zD, zE, zF]
   refine zT 28 ?_ rfl (Or.inl ⟨by rfl, ?_⟩) HSd.out ?_
   rotate_left
   ·(intro wq hSw; obtain ⟨_,_,_,_,_,_,_,_,_,_,_,_,_,_,_,_,_,_,_,_⟩ := hSw; go_simp; all_goals (first | (with_reducible rfl) | (rw [zI])))
   simp only [zA, zB, zC, Act.put, zD, zE, zF]
   refine zT 29 ?_ rfl (Or.inl ⟨by rfl, ?_⟩) HSd.out ?_
   rotate_left
   ·(intro wq hSw; obtain ⟨_,_,_,_,_,_,_,_,_,_,_,_,_,_,_,_,_,_,_,_⟩ := hSw; go_simp; all_goals (first | (with_reducible rfl) | (rw [zI])))
   simp only [zA, zB, zC, Act.put, zD, zE, zF]
   refine zT 30 ?_ rfl (Or.inl ⟨by rfl, ?_⟩) HSd.out ?_
   rotate_left
   ·(intro wq hSw; obtain ⟨_,_,_,_,_,_,_,_,_,_,_,_,_,_,_,_,_,_,_,_⟩ := hSw; go_simp; all_goals (first | (with_reducible rfl) | (rw [zI])))
   simp only [zA, zB, zC, Act.put, zD, zE, zF]
   refine zT 31 ?_ rfl (Or.inl ⟨by rfl, ?_⟩) HSd.out ?_
   rotate_left
   ·(intro wq hSw; obtain ⟨_,_,_,_,_,_,_,_,_,_,_,_,_,_,_,_,_,_,_,_⟩ := hSw; go_simp; all_goals (first | (with_reducible rfl) | (rw [zI])))
   simp only [zA, zB, zC, Act.put, zD, zE, zF]
   refine zT 32 ?_ rfl (Or.inl ⟨by rfl, ?_⟩) HSd.out ?_
   rotate_left
   ·(intro wq hSw; obtain ⟨_,_,_,_,_,_,_,_,_,_,_,_,_,_,_,_,_,_,_,_⟩ := hSw; go_simp; all_goals (first | (with_reducible rfl) | (rw [zI])))
   simp only [zA, zB, zC, Act.put, zD, zE, zF]
   refine zT 33 ?_ rfl (Or.inl ⟨by rfl, ?_⟩) HSd.out ?_
   rotate_left
   ·(intro wq hSw; obtain ⟨_,_,_,_,_,_,_,_,_,_,_,_,_,_,_,_,_,_,_,_⟩ := hSw; go_simp; all_goals (first | (with_reducible rfl) | (rw [zI])))
   simp only [zA, zB, zC, Act.put, zD, zE, zF]
   refine zT 34 ?_ rfl (Or.inl ⟨by rfl, ?_⟩) HSd.out ?_
   rotate_left
   ·(intro wq hSw; obtain ⟨_,_,_,_,_,_,_,_,_,_,_,_,_,_,_,_,_,_,_,_⟩ := hSw; go_simp; all_goals (first | (with_reducible rfl) | (rw [zI])))
   simp only [zA, zB, zC, Act.put, zD, zE, zF]
   refine zT 35 ?_ rfl (Or.inl ⟨by rfl, ?_⟩) HSd.out ?_
   rotate_left
   ·(intro wq hSw; obtain ⟨_,_,_,_,_,_,_,_,_,_,_,_,_,_,_,_,_,_,_,_⟩ := hSw; go_simp; all_goals (first | (with_reducible rfl) | (rw [zI])))
   simp only [zA, zB, zC, Act.put, zD, zE, zF]
   refine zT 36 ?_ rfl (Or.inl ⟨by rfl, ?_⟩) HSd.out ?_
   rotate_left
   ·(intro wq hSw; obtain ⟨_,_,_,_,_,_,_,_,_,_,_,_,_,_,_,_,_,_,_,_⟩ := hSw; go_simp; all_goals (first | (with_reducible rfl) | (rw [zI])))
   simp only [zA, zB, zC, Act.put, zD, zE, zF]
   refine zT 37 ?_ rfl (Or.inl ⟨by rfl, ?_⟩) HSd.out ?_
   rotate_left
   ·(intro wq hSw; obtain ⟨_,_,_,_,_,_,_,_,_,_,_,_,_,_,_,_,_,_,_,_⟩ := hSw; go_simp; all_goals (first | (with_reducible rfl) | (rw [zI])))
   simp only [zA, zB, zC, Act.put, zD, zE, zF]
   refine zT 38 ?_ rfl (Or.inl ⟨by rfl, ?_⟩) HSd.out ?_
   rotate_left
   ·(intro wq hSw; obtain ⟨_,_,_,_,_,_,_,_,_,_,_,_,_,_,_,_,_,_,_,_⟩ := hSw; go_simp; all_goals (first | (with_reducible rfl) | (rw [zI])))
   simp only [zA, zB, zC, Act.put, zD, zE, zF]
   refine zT 39 ?_ rfl (Or.inl ⟨by rfl, ?_⟩) HSd.out ?_
   rotate_left
   ·(intro wq hSw; obtain ⟨_,_,_,_,_,_,_,_,_,_,_,_,_,_,_,_,_,_,_,_⟩ := hSw; go_simp; all_goals (first | (with_reducible rfl) | (rw [zI])))
   simp only [zA, zB, zC, Act.put, zD, zE, zF]
   refine zT 40 ?_ rfl (Or.inl ⟨by rfl, ?_⟩) HSd.out ?_
   rotate_left
   ·(intro wq hSw; obtain ⟨_,_,_,_,_,_,_,_,_,_,_,_,_,_,_,_,_,_,_,_⟩ := hSw; go_simp; all_goals (first | (with_reducible rfl) | (rw [zI])))
   simp only [zA, zB, zC, Act.put, zD, zE, zF]
   refine zT 41 ?_ rfl (Or.inl ⟨by rfl, ?_⟩) HSd.out ?_
   rotate_left
   ·(intro wq hSw; obtain ⟨_,_,_,_,_,_,_,_,_,_,_,_,_,_,_,_,_,_,_,_⟩ := hSw; go_simp; all_goals (first | (with_reducible rfl) | (rw [zI])))
   simp only [zA, zB, zC, Act.put, zD, zE, zF]
   refine zT 42 ?_ rfl (Or.inl ⟨by rfl, ?_⟩) HSd.out ?_
   rotate_left
   ·(intro wq hSw; obtain ⟨_,_,_,_,_,_,_,_,_,_,_,_,_,_,_,_,_,_,_,_⟩ := hSw; go_simp; all_goals (first | (with_reducible rfl) | (rw [zI])))
   simp only [zA, zB, zC, Act.put, zD, zE, zF]
   refine zT 43 ?_ rfl (Or.inl ⟨by rfl, ?_⟩) HSd.out ?_
   rotate_left
   ·(intro wq hSw; obtain ⟨_,_,_,_,_,_,_,_,_,_,_,_,_,_,_,_,_,_,_,_⟩ := hSw; go_simp; all_goals (first | (with_reducible rfl) | (rw [zI])))
   simp only [zA, zB, zC, Act.put, zD, zE, zF]
   refine zT 44 ?_ rfl (Or.inl ⟨by rfl, ?_⟩) HSd.out ?_
   rotate_left
   ·(intro wq hSw; obtain ⟨_,_,_,_,_,_,_,_,_,_,_,_,_,_,_,_,_,_,_,_⟩ := hSw; go_simp; all_goals (first | (with_reducible rfl) | (rw [zI])))
   simp only [zA, zB, zC, Act.put, zD, zE, zF]
   refine zT 45 ?_ rfl (Or.inl ⟨by rfl, ?_⟩) HSd.out ?_
   rotate_left
   ·(intro wq hSw; obtain ⟨_,_,_,_,_,_,_,_,_,_,_,_,_,_,_,_,_,_,_,_⟩ := hSw; go_simp; all_goals (first | (with_reducible rfl) | (rw [zI])))
   simp only [zA, zB, zC, Act.put, zD, zE, zF]
   refine zT 46 ?_ rfl (Or.inl ⟨by rfl, ?_⟩) HSd.out ?_
   rotate_left
   ·(intro wq hSw; obtain ⟨_,_,_,_,_,_,_,_,_,_,_,_,_,_,_,_,_,_,_,_⟩ := hSw; go_simp; all_goals (first | (with_reducible rfl) | (rw [zI])))
   simp only [zA, zB, zC, Act.put, zD, zE, zF]
   refine zT 47 ?_ rfl (Or.inl ⟨by rfl, ?_⟩) HSd.out ?_
   rotate_left
   ·(intro wq hSw; obtain ⟨_,_,_,_,_,_,_,_,_,_,_,_,_,_,_,_,_,_,_,_⟩ := hSw; go_simp; all_goals (first | (with_reducible rfl) | (rw [zI])))
   simp only [zA, zB, zC, Act.put, zD, zE, zF]
   refine zO 48 fun K hK => ?_
   go_simp
   refine (HCL.out wr.drew (Below.refl _ _).drew).mono ?_
   rintro r w2 ⟨rfl, hb2⟩
   have hb2 : Below wr.heap.size wr w2 := chain (Below.refl _ _).drew hb2
   have HS2 := Lib.hid (HSB.out w2 hb2)
   refine hK.out _ _ (fun _ => HS2.out) ?_
   clear hK K
   try simp only [zA, zB, zC, Act.put, zD, zE, zF]
   refine zT 49 ?_ rfl (Or.inl ⟨by rfl, ?_⟩) HS2.out ?_
   rotate_left
   ·(intro wq hSw; obtain ⟨_,_,_,_,_,_,_,_,_,_,_,_,_,_,_,_,_,_,_,_⟩ := hSw; go_simp; all_goals (first | (with_reducible rfl) | (rw [zI])))
   simp only [zA, zB, zC, Act.put, zD, zE, zF]
   refine zT 50 ?_ rfl (Or.inl ⟨by rfl, ?_⟩) HS2.out ?_
   rotate_left
   ·(intro wq hSw; obtain ⟨_,_,_,_,_,_,_,_,_,_,_,_,_,_,_,_,_,_,_,_⟩ := hSw; go_simp; all_goals (first | (with_reducible rfl) | (rw [zI])))
   simp only [zA, zB, zC, Act.put, zD, zE, zF]
   refine wpT_done (by kernel_rfl) ?_
   go_wp2_with fail
   go_roundw
   case rel => exact ⟨k + 1, by omega, by go_num, chain hb hb2⟩
   case measure => simp [intOf]; omega
  ·obtain rfl : k = L := by omega
   clear hlt
   go_wp2_with fail
   go_ret
   exact ⟨rfl, hb⟩
set_option maxRecDepth 100000
theorem gval_low (s : Str) : ∀ (m j : Nat), gval s j (m + 1) = (s.getD j 0).toNat % 128 + 128 * gval s (j + 1) m := by
 intro m
 induction m with
 | zero => intro j; simp [gval]
 | succ m ih =>
  intro j
  rw [gval, ih j, gval]
  rw [show j + (m + 1) = j + 1 + m by omega, Nat.pow_succ, Nat.mul_add, Nat.add_assoc]
  congr 2
  rw [← Nat.mul_assoc, Nat.mul_comm 128, Nat.mul_assoc]
theorem gval_lt (s : Str) (p : Nat) : ∀ k : Nat, gval s p k < 128 ^ k := by
 intro k
 induction k with
 | zero => simp [gval]
 | succ k ih =>
  rw [gval]
  have h1 : (s.getD (p + k) 0).toNat % 128 ≤ 127 := by omega
  have h2 := Nat.mul_le_mul_right (128 ^ k) h1
  rw [Nat.pow_succ]
  omega
theorem gval_u64 {s : Str} {p r : Nat} (hr : r < 10) (h9 : r = 9 → (s.getD (p + r) 0).toNat ≤ 1) : gval s p (r + 1) < 18446744073709551616 := by
 by_cases h : r = 9
 ·subst h
  have h1 := h9 rfl
  have h2 := gval_lt s p 9
  rw [gval]
  have h3 : (s.getD (p + 9) 0).toNat % 128 ≤ 1 := by omega
  have h4 := Nat.mul_le_mul_right (128 ^ 9) h3
  have h5 : (128 : Nat) ^ 9 = 9223372036854775808 := by decide
  omega
 ·refine Nat.lt_of_lt_of_le (gval_lt s p (r + 1)) (Nat.le_trans (Nat.pow_le_pow_right (by decide) (show r + 1 ≤ 9 by omega)) (by decide))
theorem gval_part (s : Str) : ∀ (d j m : Nat), gval s (j + d) m ≤ gval s j (m + d) := by
 intro d
 induction d with
 | zero => intro j m; exact Nat.le_refl _
 | succ d ih =>
  intro j m
  have h1 := ih (j + 1) m
  rw [show m + (d + 1) = (m + d) + 1 by omega, gval_low]
  rw [show j + 1 + d = j + (d + 1) by omega] at h1
  omega
theorem lead_le (s : Str) : ∀ f p : Nat, lead s f p ≤ f ∧ (p ≤ s.length → p + lead s f p ≤ s.length) := by
 intro f
 induction f with
 | zero => intro p; simp [lead]
 | succ f ih =>
  intro p
  rw [lead]
  cases hc : s[p]? with
  | none => simp
  | some c =>
   have hl := (List.getElem?_eq_some_iff.1 hc).1
   have := ih (p + 1)
   simp only
   split
   ·exact ⟨by omega, fun _ => by have := this.2 (by omega); omega⟩
   ·exact ⟨by omega, fun h => by omega⟩
end Go.Proofs.YtpidjanngbaiiaaGreatDoor
