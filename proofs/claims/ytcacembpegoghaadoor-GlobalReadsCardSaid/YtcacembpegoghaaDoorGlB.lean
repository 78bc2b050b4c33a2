/-
  The program's Parse of a conversation: reading, and how what is thrown is caught.
-/
import Derived.Test.YtcacembpegoghaaDoorGlO4
import Derived.Test.YtcacembpegoghaaDoorGlK4
import Derived.Recover
namespace Go.Proofs.YtcacembpegoghaaDoor
open Go.RowKit Go.Proofs

set_option maxRecDepth 100000
/-- What was thrown, caught. -/
def gcaught (q : Nat) : FrameMode := .panicking [{ v := .iface 125 (.agg #[.int .i64 3, .int .i64 q]), recovered := true }]
theorem gcatch_thrown (tb fb q : Nat) {t0 : Gl} {lv0 kv0 y z : Value} (w : World) (TB : GBox w tb t0 lv0 kv0) (hf0 : w.cell? ⟨fb, 0, none⟩ = some y) (hf1 : w.cell? ⟨fb, 1, none⟩ = some z) (hfz0 : w.frozen? ⟨fb, 0, none⟩ = false) (hfz1 : w.frozen? ⟨fb, 1, none⟩ = false)
    (h13 : ¬ tb = fb) (h31 : ¬ fb = tb) :
    CallsD Tryd.prog 94 #[.pointer (some ⟨tb, 0, none⟩), .pointer (some ⟨fb, 0, none⟩)] (.panicking (gthrown q)) w fun e u' w' =>
      e = .returned (.tuple #[]) ∧ u' = gcaught q ∧ w' = (((((((((w.setCell ⟨tb, 0, none⟩ (.int .i64 0)).setCell ⟨tb, 1, none⟩ (.string ⟨#[]⟩)).setCell ⟨tb, 2, none⟩ (.string ⟨#[]⟩)).setCell ⟨tb, 3, none⟩ (.int .i64 0)).setCell ⟨tb, 4, none⟩ (.string ⟨#[]⟩)).setCell ⟨tb, 5, none⟩ (.slice none 0 0)).setCell ⟨tb, 6, none⟩ (.slice none 0 0)).setCell ⟨fb, 0, none⟩ (.int .i64 3)).setCell ⟨fb, 1, none⟩ (.int .i64 q)).drew := by
  obtain ⟨x0, x1, x2, x3, x4, x5, x6, x7, x8⟩ := TB
  refine callsD_of_wpS Tryd.func94 rfl fun c₀ cs hu => ?_
  apply wpS_seq
  apply wpS_region
  simp [wpOpsS, go_sem, recoverD, hu, gthrown, Tryd.ntmps94, Exit.thenS]
  apply wpS_seq
  apply wpS_region
  simp [wpOpsS, go_sem, Exit.thenS]
  refine wpS_cond (t := true) (by simp [Act.eval]) ?_
  simp only [if_true]
  refine wpS_of_wp ?_
  simp only [List.size_toArray, List.length_cons, List.length_nil, Nat.reduceAdd, Nat.reduceSub, Array.replicate_succ, Array.replicate_zero, List.push_toArray, List.append_toArray, List.nil_append, List.cons_append, List.setIfInBounds_toArray, List.set_cons_zero, List.set_cons_succ]
  have hta : ∀ (v : Value) (w : World), (Instr.typeAssert (.iface 125 v) 20 125 false).run Tryd.prog w = .ok v w := fun _ _ => by kernel_rfl
  have hfl : ∀ (c : Int) (w : World), (Instr.field 125 (.agg #[.int .i64 3, .int .i64 c]) 0).run Tryd.prog w = .ok (.agg #[.int .i64 3, .int .i64 c]) w := fun _ _ => by kernel_rfl
  go_region
  cases c₀
  simp [bodyPostS, results, Tryd.results94, gcaught]
/-- Both results laid. -/
theorem glaid_facts (tb fb : Nat) {t0 : Gl} {lv0 kv0 y z : Value} (w : World) (TB : GBox w tb t0 lv0 kv0) (hf0 : w.cell? ⟨fb, 0, none⟩ = some y) (hf1 : w.cell? ⟨fb, 1, none⟩ = some z)
    (h13 : ¬ tb = fb) (h31 : ¬ fb = tb) (t : Gl) (lv kv : Value) (c a : Int) :
    GBox (((((((((w.setCell ⟨tb, 0, none⟩ (.int .i64 t.kind)).setCell ⟨tb, 1, none⟩ (.string ⟨t.frm.toArray⟩)).setCell ⟨tb, 2, none⟩ (.string ⟨t.rcv.toArray⟩)).setCell ⟨tb, 3, none⟩ (.int .i64 t.sort)).setCell ⟨tb, 4, none⟩ (.string ⟨t.name.toArray⟩)).setCell ⟨tb, 5, none⟩ lv).setCell ⟨tb, 6, none⟩ kv).setCell ⟨fb, 0, none⟩ (.int .i64 c)).setCell ⟨fb, 1, none⟩ (.int .i64 a)) tb t lv kv ∧ (((((((((w.setCell ⟨tb, 0, none⟩ (.int .i64 t.kind)).setCell ⟨tb, 1, none⟩ (.string ⟨t.frm.toArray⟩)).setCell ⟨tb, 2, none⟩ (.string ⟨t.rcv.toArray⟩)).setCell ⟨tb, 3, none⟩ (.int .i64 t.sort)).setCell ⟨tb, 4, none⟩ (.string ⟨t.name.toArray⟩)).setCell ⟨tb, 5, none⟩ lv).setCell ⟨tb, 6, none⟩ kv).setCell ⟨fb, 0, none⟩ (.int .i64 c)).setCell ⟨fb, 1, none⟩ (.int .i64 a)).cell? ⟨fb, 0, none⟩ = some (.int .i64 c) ∧ (((((((((w.setCell ⟨tb, 0, none⟩ (.int .i64 t.kind)).setCell ⟨tb, 1, none⟩ (.string ⟨t.frm.toArray⟩)).setCell ⟨tb, 2, none⟩ (.string ⟨t.rcv.toArray⟩)).setCell ⟨tb, 3, none⟩ (.int .i64 t.sort)).setCell ⟨tb, 4, none⟩ (.string ⟨t.name.toArray⟩)).setCell ⟨tb, 5, none⟩ lv).setCell ⟨tb, 6, none⟩ kv).setCell ⟨fb, 0, none⟩ (.int .i64 c)).setCell ⟨fb, 1, none⟩ (.int .i64 a)).cell? ⟨fb, 1, none⟩ = some (.int .i64 a) ∧
      (∀ B v, Below B v w → B ≤ tb → B ≤ fb → Below B v (((((((((w.setCell ⟨tb, 0, none⟩ (.int .i64 t.kind)).setCell ⟨tb, 1, none⟩ (.string ⟨t.frm.toArray⟩)).setCell ⟨tb, 2, none⟩ (.string ⟨t.rcv.toArray⟩)).setCell ⟨tb, 3, none⟩ (.int .i64 t.sort)).setCell ⟨tb, 4, none⟩ (.string ⟨t.name.toArray⟩)).setCell ⟨tb, 5, none⟩ lv).setCell ⟨tb, 6, none⟩ kv).setCell ⟨fb, 0, none⟩ (.int .i64 c)).setCell ⟨fb, 1, none⟩ (.int .i64 a))) ∧ Same (fun k => k ≠ tb ∧ k ≠ fb) w (((((((((w.setCell ⟨tb, 0, none⟩ (.int .i64 t.kind)).setCell ⟨tb, 1, none⟩ (.string ⟨t.frm.toArray⟩)).setCell ⟨tb, 2, none⟩ (.string ⟨t.rcv.toArray⟩)).setCell ⟨tb, 3, none⟩ (.int .i64 t.sort)).setCell ⟨tb, 4, none⟩ (.string ⟨t.name.toArray⟩)).setCell ⟨tb, 5, none⟩ lv).setCell ⟨tb, 6, none⟩ kv).setCell ⟨fb, 0, none⟩ (.int .i64 c)).setCell ⟨fb, 1, none⟩ (.int .i64 a)) := by
  have V1 := TB.fill t lv kv
  have hc : ∀ (k o : Nat), ¬ tb = k → (((((((w.setCell ⟨tb, 0, none⟩ (.int .i64 t.kind)).setCell ⟨tb, 1, none⟩ (.string ⟨t.frm.toArray⟩)).setCell ⟨tb, 2, none⟩ (.string ⟨t.rcv.toArray⟩)).setCell ⟨tb, 3, none⟩ (.int .i64 t.sort)).setCell ⟨tb, 4, none⟩ (.string ⟨t.name.toArray⟩)).setCell ⟨tb, 5, none⟩ lv).setCell ⟨tb, 6, none⟩ kv).cell? ⟨k, o, none⟩ = w.cell? ⟨k, o, none⟩ := by
    intro k o hk
    rw [World.cell?_setCell_far _ _ _ _ hk, World.cell?_setCell_far _ _ _ _ hk, World.cell?_setCell_far _ _ _ _ hk, World.cell?_setCell_far _ _ _ _ hk, World.cell?_setCell_far _ _ _ _ hk, World.cell?_setCell_far _ _ _ _ hk, World.cell?_setCell_far _ _ _ _ hk]
  have e2 := (hc fb 0 h13).trans hf0
  have e3 := (hc fb 1 h13).trans hf1
  have hb : ∀ B v, Below B v w → B ≤ tb → Below B v (((((((w.setCell ⟨tb, 0, none⟩ (.int .i64 t.kind)).setCell ⟨tb, 1, none⟩ (.string ⟨t.frm.toArray⟩)).setCell ⟨tb, 2, none⟩ (.string ⟨t.rcv.toArray⟩)).setCell ⟨tb, 3, none⟩ (.int .i64 t.sort)).setCell ⟨tb, 4, none⟩ (.string ⟨t.name.toArray⟩)).setCell ⟨tb, 5, none⟩ lv).setCell ⟨tb, 6, none⟩ kv) := fun B v h hB => below_fill7 h hB _ _ _ _ _ _ _
  have hs : Same (fun k => k ≠ tb ∧ k ≠ fb) w (((((((w.setCell ⟨tb, 0, none⟩ (.int .i64 t.kind)).setCell ⟨tb, 1, none⟩ (.string ⟨t.frm.toArray⟩)).setCell ⟨tb, 2, none⟩ (.string ⟨t.rcv.toArray⟩)).setCell ⟨tb, 3, none⟩ (.int .i64 t.sort)).setCell ⟨tb, 4, none⟩ (.string ⟨t.name.toArray⟩)).setCell ⟨tb, 5, none⟩ lv).setCell ⟨tb, 6, none⟩ kv) := Same.fill7 (fun h => h.1 rfl) _ _ _ _ _ _ _
  have hz : ((((((((w.setCell ⟨tb, 0, none⟩ (.int .i64 t.kind)).setCell ⟨tb, 1, none⟩ (.string ⟨t.frm.toArray⟩)).setCell ⟨tb, 2, none⟩ (.string ⟨t.rcv.toArray⟩)).setCell ⟨tb, 3, none⟩ (.int .i64 t.sort)).setCell ⟨tb, 4, none⟩ (.string ⟨t.name.toArray⟩)).setCell ⟨tb, 5, none⟩ lv).setCell ⟨tb, 6, none⟩ kv)).heap.size = w.heap.size := by simp only [World.size_setCell]
  clear hc
  generalize (((((((w.setCell ⟨tb, 0, none⟩ (.int .i64 t.kind)).setCell ⟨tb, 1, none⟩ (.string ⟨t.frm.toArray⟩)).setCell ⟨tb, 2, none⟩ (.string ⟨t.rcv.toArray⟩)).setCell ⟨tb, 3, none⟩ (.int .i64 t.sort)).setCell ⟨tb, 4, none⟩ (.string ⟨t.name.toArray⟩)).setCell ⟨tb, 5, none⟩ lv).setCell ⟨tb, 6, none⟩ kv) = w1 at V1 e2 e3 hb hs hz ⊢
  have V2 := (V1.far (p := ⟨fb, 0, none⟩) h31 (.int .i64 c)).far (p := ⟨fb, 1, none⟩) h31 (.int .i64 a)
  have ne : ∀ {w : World} {i j : Nat} {u : Value}, i ≠ j → (w.setCell ⟨fb, i, none⟩ u).cell? ⟨fb, j, none⟩ = w.cell? ⟨fb, j, none⟩ := fun h => World.cell?_setCell_other _ _ _ _ (fun e => h (by injection e))
  refine ⟨V2, ?_, ?_, fun B v h h1 h3 => ((hb B v h h1).setCell h3 _).setCell h3 _, ?_⟩
  · rw [ne (by decide)]
    exact World.cell?_setCell_same' _ _ _ (by rw [e2]; rfl)
  · exact World.cell?_setCell_same' _ _ _ (by rw [ne (by decide), e3]; rfl)
  · refine (hs.trans ?_ (Same.set (fun h => h.2 rfl))).trans ?_ (Same.set (fun h => h.2 rfl))
    · omega
    · simp only [World.size_setCell]; omega
theorem gcatch_idle (tb fb : Nat) (w : World) :
    CallsD Tryd.prog 94 #[.pointer (some ⟨tb, 0, none⟩), .pointer (some ⟨fb, 0, none⟩)] .returning w fun e u' w' => e = .returned (.tuple #[]) ∧ u' = .returning ∧ w' = w := by
  refine callsD_of_wpS Tryd.func94 rfl fun c₀ cs hu => ?_
  apply wpS_seq
  apply wpS_region
  simp [wpOpsS, go_sem, recoverD, hu, Tryd.ntmps94, Exit.thenS]
  apply wpS_seq
  apply wpS_region
  simp [wpOpsS, go_sem, Exit.thenS]
  refine wpS_cond (t := false) (by simp [Act.eval]) ?_
  simp only [Bool.false_eq_true, if_false]
  refine wpS_of_wp (wp_skip ?_)
  cases c₀
  simp_all [bodyPostS, results, Tryd.results94]
theorem grown_cell {w w' : World} {b k o : Nat} {v : Value} (hg : w.grownBy w' (some b)) (hk : k ≠ b) (h : w.cell? ⟨k, o, none⟩ = some v) : w'.cell? ⟨k, o, none⟩ = some v :=
  (World.cell?_of_block (a := ⟨k, o, none⟩) (hg.block k (cell_lt h) (fun e => hk (by injection e)))).trans h
theorem grown_frozen {w w' : World} {b k o : Nat} {v : Value} {z : Bool} (hg : w.grownBy w' (some b)) (hk : k ≠ b) (h : w.cell? ⟨k, o, none⟩ = some v) (hz : w.frozen? ⟨k, o, none⟩ = z) : w'.frozen? ⟨k, o, none⟩ = z :=
  (World.frozen?_of_block (a := ⟨k, o, none⟩) (hg.block k (cell_lt h) (fun e => hk (by injection e)))).trans hz
/-- What lies there behind what was caught. -/
theorem gcaught_facts (tb fb q : Nat) {t0 : Gl} {lv0 kv0 y z : Value} (w w' : World) (TB : GBox w tb t0 lv0 kv0) (hf0 : w.cell? ⟨fb, 0, none⟩ = some y) (hf1 : w.cell? ⟨fb, 1, none⟩ = some z)
    (h13 : ¬ tb = fb) (h31 : ¬ fb = tb) (hw : w' = (((((((((w.setCell ⟨tb, 0, none⟩ (.int .i64 0)).setCell ⟨tb, 1, none⟩ (.string ⟨#[]⟩)).setCell ⟨tb, 2, none⟩ (.string ⟨#[]⟩)).setCell ⟨tb, 3, none⟩ (.int .i64 0)).setCell ⟨tb, 4, none⟩ (.string ⟨#[]⟩)).setCell ⟨tb, 5, none⟩ (.slice none 0 0)).setCell ⟨tb, 6, none⟩ (.slice none 0 0)).setCell ⟨fb, 0, none⟩ (.int .i64 3)).setCell ⟨fb, 1, none⟩ (.int .i64 q)).drew) :
    GBox w' tb zeroGl (.slice none 0 0) (.slice none 0 0) ∧ w'.cell? ⟨fb, 0, none⟩ = some (.int .i64 3) ∧ w'.cell? ⟨fb, 1, none⟩ = some (.int .i64 q) ∧ ∀ B a, Below B a w → B ≤ tb → B ≤ fb → Below B a w' := by
  subst hw
  obtain ⟨V, h0, h1, hb, -⟩ := glaid_facts tb fb w TB hf0 hf1 h13 h31 zeroGl (.slice none 0 0) (.slice none 0 0) 3 q
  simp only [zeroGl, Gl.kind, Gl.frm, Gl.rcv, Gl.sort, Gl.name] at V h0 h1 hb
  generalize (((((((((w.setCell ⟨tb, 0, none⟩ (.int .i64 0)).setCell ⟨tb, 1, none⟩ (.string ⟨#[]⟩)).setCell ⟨tb, 2, none⟩ (.string ⟨#[]⟩)).setCell ⟨tb, 3, none⟩ (.int .i64 0)).setCell ⟨tb, 4, none⟩ (.string ⟨#[]⟩)).setCell ⟨tb, 5, none⟩ (.slice none 0 0)).setCell ⟨tb, 6, none⟩ (.slice none 0 0)).setCell ⟨fb, 0, none⟩ (.int .i64 3)).setCell ⟨fb, 1, none⟩ (.int .i64 q)) = w1 at V h0 h1 hb ⊢
  exact ⟨⟨V.c0, V.c1, V.c2, V.c3, V.c4, V.c5, V.c6, V.fr, V.lt⟩, h0, h1, fun B a h h1 h3 => (hb B a h h1 h3).drew⟩
set_option maxHeartbeats 4000000 in
theorem gParse_any (l : Str) (w : World) (hS : GSorts w) (hl : l.length ≤ 9223372036854775807) :
    Calls Tryd.prog 24 #[.string ⟨l.toArray⟩] w fun e w' => Below w.heap.size w w' ∧ ∃ v, e = .returned (.tuple #[v, .agg #[.int .i64 (gdParse l).2.1, .int .i64 (gdParse l).2.2]]) ∧ GlV (fun k => w.heap.size ≤ k) w' v (gdParse l).1 := by
  have hmf : ∀ (fn : Fn) (first cap : Array Value) (w : World), (Instr.makeFunc fn first cap).run Tryd.prog w = .ok (.func fn first cap) w := fun _ _ _ _ => rfl
  obtain ⟨TT, CC, AA, hA⟩ : ∃ t c a, gdParse l = (t, c, a) := ⟨_, _, _, rfl⟩
  rw [hA]
  simp only
  have HA := Lib.hid hA; clear hA
  by_cases h2000 : l.length ≤ 2000
  · have hd : decide ((2000 : Int) < (l.length : Int)) = false := by simp; omega
    go_enter_defers Tryd.func24, Tryd.ntmps24
    go_wp2_with fail
    obtain ⟨W, hW⟩ : ∃ x, ((w.alloc (.cells #[.int .i64 0, .string ⟨#[]⟩, .string ⟨#[]⟩, .int .i64 0, .string ⟨#[]⟩, .slice none 0 0, .slice none 0 0] 42)).alloc (.cells #[.int .i64 0, .int .i64 0] 44)).alloc (.cells #[.string ⟨l.toArray⟩, .int .i64 0] 123) = x := ⟨_, rfl⟩
    have hbW : Below w.heap.size w W := by subst hW; go_grown
    have TB1 : GBox W (w.heap.size) zeroGl (.slice none 0 0) (.slice none 0 0) := by subst hW; exact ⟨by simp [go_sem]; rfl, by simp [go_sem]; rfl, by simp [go_sem]; rfl, by simp [go_sem]; rfl, by simp [go_sem]; rfl, by simp [go_sem], by simp [go_sem], fun j => by simp [go_sem], by simp; omega⟩
    have f01 : W.cell? ⟨w.heap.size + 1, 0, none⟩ = some (.int .i64 0) := by subst hW; simp [go_sem]
    have f11 : W.cell? ⟨w.heap.size + 1, 1, none⟩ = some (.int .i64 0) := by subst hW; simp [go_sem]
    have fz01 : W.frozen? ⟨w.heap.size + 1, 0, none⟩ = false := by subst hW; simp [go_sem]
    have fz11 : W.frozen? ⟨w.heap.size + 1, 1, none⟩ = false := by subst hW; simp [go_sem]
    have RB1 : RBox W (w.heap.size + 1 + 1) l 0 := by subst hW; exact ⟨by simp [go_sem], by simp [go_sem], fun j => by simp [go_sem], by simp⟩
    rw [hW]
    clear hW
    have hSW : GSorts W := hS.keep hbW
    refine (gone_any l (w.heap.size + 1 + 1) h2000 (fun w' => Below w.heap.size w w') (fun a b hab hg => hab.grown hg hab.size (fun k e => by have := Option.some.inj e; omega)) (fun a ha => hS.keep ha) (l.length + 1) 0 W (Nat.zero_le _) (by omega) hbW RB1).mono ?_
    rintro e w5 ⟨hg, hans⟩
    have hb5 : Below w.heap.size w w5 := hbW.grown hg hbW.size (fun k e => by have := Option.some.inj e; omega)
    have TB5 := TB1.grown' hg (by omega)
    have f05 := grown_cell hg (by omega) f01
    have f15 := grown_cell hg (by omega) f11
    have fz05 := grown_frozen hg (by omega) f01 fz01
    have fz15 := grown_frozen hg (by omega) f11 fz11
    have htook := gdOne_took (l := l) (l.length + 1) 0 (Nat.zero_le _)
    cases hr : gdOne l (l.length + 1) 0 with
    | bad q =>
      rw [hr] at hans
      simp only at hans
      subst hans
      have hres : gdParse l = (zeroGl, 3, q) := by unfold gdParse; rw [if_neg (by omega), hr]
      obtain ⟨rfl, rfl, rfl⟩ : zeroGl = TT ∧ 3 = CC ∧ q = AA := by have hq := hres.symm.trans HA.out; simpa only [Prod.mk.injEq] using hq
      refine leaves_cons (f := 94) (args := #[.pointer (some ⟨w.heap.size, 0, none⟩), .pointer (some ⟨w.heap.size + 1, 0, none⟩)]) (by simp) (by simp [go_sem]) ?_
      refine (gcatch_thrown (w.heap.size) (w.heap.size + 1) _ w5 TB5 f05 f15 fz05 fz15 (by omega) (by omega)).mono ?_
      rintro e u' wz ⟨rfl, rfl, hwz⟩
      obtain ⟨TBz, f0z, f1z, hbz⟩ := gcaught_facts (w.heap.size) (w.heap.size + 1) _ w5 wz TB5 f05 f15 (by omega) (by omega) hwz
      have hbz := hbz _ _ hb5 (Nat.le_refl _) (by omega)
      clear hwz
      obtain ⟨y0, y1, y2, y3, y4, y5, y6, y7, y8⟩ := id TBz
      simp only [zeroGl, Gl.kind, Gl.frm, Gl.rcv, Gl.sort, Gl.name] at y0 y1 y2 y3 y4
      refine ⟨.tuple #[.agg #[.int .i64 0, .string ⟨#[]⟩, .string ⟨#[]⟩, .int .i64 0, .string ⟨#[]⟩, .slice none 0 0, .slice none 0 0], .agg #[.int .i64 3, .int .i64 _]], by simp [results, Tryd.results24, go_sem, y0, y1, y2, y3, y4, y5, y6, f0z, f1z], hbz, _, rfl, zero_gl _ _⟩
    | ok t q =>
      rw [hr] at hans htook
      obtain ⟨v, rfl, hT, RB5⟩ := hans
      obtain ⟨ht1, ht2⟩ : 0 ≤ q ∧ q ≤ l.length := htook
      have hWlt : w.heap.size + 1 + 1 < W.heap.size := RB1.lt
      have hfit : GFit t := by have := gdOne_fit (l := l) (by unfold maxLen; omega) (l.length + 1) 0; rw [hr] at this; exact this
      have HRR := Lib.hid hr
      clear hr hg TB1 f01 f11 fz01 fz11 RB1 hbW hSW
      obtain ⟨lv, kv, rfl, k1, k2⟩ := hT
      have K1 := Lib.hid k1; have K2 := Lib.hid k2
      obtain ⟨A1, c1, rfl, -, -⟩ := k1
      obtain ⟨A2, c2, rfl, -, -⟩ := k2
      obtain ⟨x0, x1, x2, x3, x4, x5, x6, x7, x8⟩ := id TB5
      have n2 : ¬ w.heap.size = w.heap.size + 1 := by omega
      have n3 : ¬ w.heap.size = w.heap.size + 1 + 1 := by omega
      go_wp2_with fail
      have TB6 := TB5.fill t (.slice A1 t.labels.length c1) (.slice A2 t.kids.length c2)
      have hb6 := below_fill7 hb5 (Nat.le_refl _) (.int .i64 t.kind) (.string ⟨t.frm.toArray⟩) (.string ⟨t.rcv.toArray⟩) (.int .i64 t.sort) (.string ⟨t.name.toArray⟩) (.slice A1 t.labels.length c1) (.slice A2 t.kids.length c2)
      have hsm : Same (· ≠ w.heap.size) w5 (((((((w5.setCell ⟨w.heap.size, 0, none⟩ (.int .i64 t.kind)).setCell ⟨w.heap.size, 1, none⟩ (.string ⟨t.frm.toArray⟩)).setCell ⟨w.heap.size, 2, none⟩ (.string ⟨t.rcv.toArray⟩)).setCell ⟨w.heap.size, 3, none⟩ (.int .i64 t.sort)).setCell ⟨w.heap.size, 4, none⟩ (.string ⟨t.name.toArray⟩)).setCell ⟨w.heap.size, 5, none⟩ (.slice A1 t.labels.length c1)).setCell ⟨w.heap.size, 6, none⟩ (.slice A2 t.kids.length c2)) := Same.fill7 (fun h => h rfl) _ _ _ _ _ _ _
      have RB6 : RBox (((((((w5.setCell ⟨w.heap.size, 0, none⟩ (.int .i64 t.kind)).setCell ⟨w.heap.size, 1, none⟩ (.string ⟨t.frm.toArray⟩)).setCell ⟨w.heap.size, 2, none⟩ (.string ⟨t.rcv.toArray⟩)).setCell ⟨w.heap.size, 3, none⟩ (.int .i64 t.sort)).setCell ⟨w.heap.size, 4, none⟩ (.string ⟨t.name.toArray⟩)).setCell ⟨w.heap.size, 5, none⟩ (.slice A1 t.labels.length c1)).setCell ⟨w.heap.size, 6, none⟩ (.slice A2 t.kids.length c2)) (w.heap.size + 1 + 1) l q := ((((((RB5.far n3 _).far n3 _).far n3 _).far n3 _).far n3 _).far n3 _).far n3 _
      have f06 := hsm.cell (by omega) f05
      have f16 := hsm.cell (by omega) f15
      have hz : ∀ (k o : Nat), (((((((w5.setCell ⟨w.heap.size, 0, none⟩ (.int .i64 t.kind)).setCell ⟨w.heap.size, 1, none⟩ (.string ⟨t.frm.toArray⟩)).setCell ⟨w.heap.size, 2, none⟩ (.string ⟨t.rcv.toArray⟩)).setCell ⟨w.heap.size, 3, none⟩ (.int .i64 t.sort)).setCell ⟨w.heap.size, 4, none⟩ (.string ⟨t.name.toArray⟩)).setCell ⟨w.heap.size, 5, none⟩ (.slice A1 t.labels.length c1)).setCell ⟨w.heap.size, 6, none⟩ (.slice A2 t.kids.length c2)).frozen? ⟨k, o, none⟩ = w5.frozen? ⟨k, o, none⟩ := fun k o => by simp only [World.frozen?_setCell]
      have fz06 := (hz (w.heap.size + 1) 0).trans fz05
      have fz16 := (hz (w.heap.size + 1) 1).trans fz15
      replace K1 := Lib.hid (K1.out.keep (D' := fun k => w.heap.size + 1 + 1 < k) (fun k hk hl => hsm k (by have : W.heap.size ≤ k := hk; omega) hl) (fun k hk _ => by have : W.heap.size ≤ k := hk; omega))
      replace K2 := Lib.hid (K2.out.keep (D' := fun k => w.heap.size + 1 + 1 < k) (fun k hk hl => hsm k (by have : W.heap.size ≤ k := hk; omega) hl) (fun k hk _ => by have : W.heap.size ≤ k := hk; omega))
      generalize (((((((w5.setCell ⟨w.heap.size, 0, none⟩ (.int .i64 t.kind)).setCell ⟨w.heap.size, 1, none⟩ (.string ⟨t.frm.toArray⟩)).setCell ⟨w.heap.size, 2, none⟩ (.string ⟨t.rcv.toArray⟩)).setCell ⟨w.heap.size, 3, none⟩ (.int .i64 t.sort)).setCell ⟨w.heap.size, 4, none⟩ (.string ⟨t.name.toArray⟩)).setCell ⟨w.heap.size, 5, none⟩ (.slice A1 t.labels.length c1)).setCell ⟨w.heap.size, 6, none⟩ (.slice A2 t.kids.length c2)) = w6 at TB6 hb6 RB6 f06 f16 fz06 fz16 K1 K2 ⊢
      clear hsm hz TB5 hb5 RB5 f05 f15 fz05 fz15 x0 x1 x2 x3 x4 x5 x6 x7 x8
      clear w5
      clear hWlt
      refine (gis_any l (w.heap.size + 1 + 1) q 32 w6 h2000 ht2 RB6).mono ?_
      rintro e w7 ⟨rfl, hg, RB7⟩
      have hb7 : Below w.heap.size w w7 := hb6.grown hg hb6.size (fun k e => by have := Option.some.inj e; omega)
      have TB7 := TB6.grown' hg (by omega)
      have f07 := grown_cell hg (by omega) f06
      have f17 := grown_cell hg (by omega) f16
      have fz07 := grown_frozen hg (by omega) f06 fz06
      have fz17 := grown_frozen hg (by omega) f16 fz16
      have hsm : Same (fun k => w.heap.size + 1 + 1 < k) w6 w7 := Same.grown hg (fun k hk e => by have := Option.some.inj e; omega)
      replace K1 := Lib.hid (K1.out.keep (D' := fun k => w.heap.size + 1 + 1 < k) hsm (fun _ h _ => h))
      replace K2 := Lib.hid (K2.out.keep (D' := fun k => w.heap.size + 1 + 1 < k) hsm (fun _ h _ => h))
      clear hsm hg TB6 hb6 RB6 f06 f16 fz06 fz16
      clear w6
      have hsq := sk_le ht2
      obtain ⟨Q, hQ⟩ : ∃ x, sk l q = x := ⟨_, rfl⟩
      rw [hQ] at RB7 hsq ⊢
      have HQ := Lib.hid hQ; clear hQ
      obtain ⟨x0, x1, x2, x3, x4, x5, x6, x7, x8⟩ := id TB7
      obtain ⟨r0, r1, r2, r3⟩ := id RB7
      by_cases hql : Q < l.length
      · have hdq : decide ((Q : Int) < (l.length : Int)) = true := by simp; omega
        have hqi : (Q : Int) < (l.length : Int) := by omega
        go_wp2_with fail
        refine (gfail_any l (w.heap.size + 1 + 1) Q w7 RB7).mono ?_
        rintro e w8 ⟨rfl, hg⟩
        have hb8 : Below w.heap.size w w8 := hb7.grown hg hb7.size (fun k e => by have := Option.some.inj e; omega)
        have TB8 := TB7.grown' hg (by omega)
        have f08 := grown_cell hg (by omega) f07
        have f18 := grown_cell hg (by omega) f17
        have fz08 := grown_frozen hg (by omega) f07 fz07
        have fz18 := grown_frozen hg (by omega) f17 fz17
        have hres : gdParse l = (zeroGl, 3, Q) := by unfold gdParse; rw [if_neg (by omega), HRR.out]; simp only; rw [HQ.out, if_pos hql]
        obtain ⟨rfl, rfl, rfl⟩ : zeroGl = TT ∧ 3 = CC ∧ Q = AA := by have hq := hres.symm.trans HA.out; simpa only [Prod.mk.injEq] using hq
        refine leaves_cons (f := 94) (args := #[.pointer (some ⟨w.heap.size, 0, none⟩), .pointer (some ⟨w.heap.size + 1, 0, none⟩)]) (by simp) (by simp [go_sem]) ?_
        refine (gcatch_thrown (w.heap.size) (w.heap.size + 1) _ w8 TB8 f08 f18 fz08 fz18 (by omega) (by omega)).mono ?_
        rintro e u' wz ⟨rfl, rfl, hwz⟩
        obtain ⟨TBz, f0z, f1z, hbz⟩ := gcaught_facts (w.heap.size) (w.heap.size + 1) _ w8 wz TB8 f08 f18 (by omega) (by omega) hwz
        have hbz := hbz _ _ hb8 (Nat.le_refl _) (by omega)
        clear hwz
        obtain ⟨y0, y1, y2, y3, y4, y5, y6, y7, y8⟩ := id TBz
        simp only [zeroGl, Gl.kind, Gl.frm, Gl.rcv, Gl.sort, Gl.name] at y0 y1 y2 y3 y4
        refine ⟨.tuple #[.agg #[.int .i64 0, .string ⟨#[]⟩, .string ⟨#[]⟩, .int .i64 0, .string ⟨#[]⟩, .slice none 0 0, .slice none 0 0], .agg #[.int .i64 3, .int .i64 _]], by simp [results, Tryd.results24, go_sem, y0, y1, y2, y3, y4, y5, y6, f0z, f1z], hbz, _, rfl, zero_gl _ _⟩
      · have hdq : decide ((Q : Int) < (l.length : Int)) = false := by simp; omega
        have hqi : ¬ (Q : Int) < (l.length : Int) := by omega
        go_wp2_with fail
        refine (gCheck_any t _ w7 (glV_of K1.out K2.out).all hfit).mono ?_
        obtain ⟨E, hE⟩ : ∃ x, glErr t = x := ⟨_, rfl⟩
        rw [hE]
        have HE := Lib.hid hE; clear hE
        rintro e w8 ⟨rfl, hb8⟩
        have TB8 := TB7.keep hb8 TB7.lt
        have RB8 := RB7.keep hb8
        have f08 := cell_keep f07 hb8
        have f18 := cell_keep f17 hb8
        have fz08 := (hb8.frozen (p := ⟨w.heap.size + 1, 0, none⟩) (cell_lt f07)).trans fz07
        have fz18 := (hb8.frozen (p := ⟨w.heap.size + 1, 1, none⟩) (cell_lt f17)).trans fz17
        have hb9 := chain hb7 hb8
        replace K1 := Lib.hid (K1.out.keep (D' := fun k => w.heap.size + 1 + 1 < k) (Same.below hb8) (fun _ h _ => h))
        replace K2 := Lib.hid (K2.out.keep (D' := fun k => w.heap.size + 1 + 1 < k) (Same.below hb8) (fun _ h _ => h))
        clear TB7 RB7 f07 f17 fz07 fz17 hb7 hb8 x0 x1 x2 x3 x4 x5 x6 x7 x8 r0 r1 r2 r3
        clear w7
        obtain ⟨x0, x1, x2, x3, x4, x5, x6, x7, x8⟩ := id TB8
        obtain ⟨r0, r1, r2, r3⟩ := id RB8
        by_cases hE0 : E = 0
        · subst hE0
          have hres : gdParse l = (t, 0, 0) := by unfold gdParse; rw [if_neg (by omega), HRR.out]; simp only; rw [HQ.out, if_neg hql, HE.out, if_pos rfl]
          obtain ⟨rfl, rfl, rfl⟩ : t = TT ∧ 0 = CC ∧ 0 = AA := by have hq := hres.symm.trans HA.out; simpa only [Prod.mk.injEq] using hq
          go_wp2_with fail
          obtain ⟨TB9, f09, f19, hbl, hsm⟩ := glaid_facts (w.heap.size) (w.heap.size + 1) w8 TB8 f08 f18 (by omega) (by omega) t (.slice A1 t.labels.length c1) (.slice A2 t.kids.length c2) 0 0
          have hb10 := hbl _ _ hb9 (Nat.le_refl _) (by omega)
          have K3 := K1.out.keep (D' := fun k => w.heap.size ≤ k) (fun k hk hl => hsm k (by have : w.heap.size + 1 + 1 < k := hk; omega) hl) (fun k hk _ => by have : w.heap.size + 1 + 1 < k := hk; omega)
          have K4 := K2.out.keep (D' := fun k => w.heap.size ≤ k) (fun k hk hl => hsm k (by have : w.heap.size + 1 + 1 < k := hk; omega) hl) (fun k hk _ => by have : w.heap.size + 1 + 1 < k := hk; omega)
          generalize (((((((((w8.setCell ⟨w.heap.size, 0, none⟩ (.int .i64 t.kind)).setCell ⟨w.heap.size, 1, none⟩ (.string ⟨t.frm.toArray⟩)).setCell ⟨w.heap.size, 2, none⟩ (.string ⟨t.rcv.toArray⟩)).setCell ⟨w.heap.size, 3, none⟩ (.int .i64 t.sort)).setCell ⟨w.heap.size, 4, none⟩ (.string ⟨t.name.toArray⟩)).setCell ⟨w.heap.size, 5, none⟩ (.slice A1 t.labels.length c1)).setCell ⟨w.heap.size, 6, none⟩ (.slice A2 t.kids.length c2)).setCell ⟨w.heap.size + 1, 0, none⟩ (.int .i64 0)).setCell ⟨w.heap.size + 1, 1, none⟩ (.int .i64 0)) = w9 at TB9 f09 f19 hb10 K3 K4 ⊢
          refine leaves_cons (f := 94) (args := #[.pointer (some ⟨w.heap.size, 0, none⟩), .pointer (some ⟨w.heap.size + 1, 0, none⟩)]) (by simp) (by simp [go_sem]) ?_
          refine (gcatch_idle (w.heap.size) (w.heap.size + 1) w9).mono ?_
          rintro e u' w12 ⟨rfl, rfl, hw⟩
          rw [hw]
          obtain ⟨y0, y1, y2, y3, y4, y5, y6, y7, y8⟩ := id TB9
          refine ⟨.tuple #[.agg #[.int .i64 t.kind, .string ⟨t.frm.toArray⟩, .string ⟨t.rcv.toArray⟩, .int .i64 t.sort, .string ⟨t.name.toArray⟩, .slice A1 t.labels.length c1, .slice A2 t.kids.length c2], .agg #[.int .i64 0, .int .i64 0]], by simp [results, Tryd.results24, go_sem, y0, y1, y2, y3, y4, y5, y6, f09, f19], hb10, _, rfl, ⟨_, _, rfl, K3, K4⟩⟩
        · have hbe : (E != 0) = true := by rw [bne_iff_ne]; exact hE0
          have hres : gdParse l = (zeroGl, E, 0) := by unfold gdParse; rw [if_neg (by omega), HRR.out]; simp only; rw [HQ.out, if_neg hql, HE.out, if_neg hE0]
          obtain ⟨rfl, rfl, rfl⟩ : zeroGl = TT ∧ E = CC ∧ 0 = AA := by have hq := hres.symm.trans HA.out; simpa only [Prod.mk.injEq] using hq
          go_wp2_with fail
          obtain ⟨TB9, f09, f19, hbl, hsm⟩ := glaid_facts (w.heap.size) (w.heap.size + 1) w8 TB8 f08 f18 (by omega) (by omega) zeroGl (.slice none 0 0) (.slice none 0 0) E 0
          have hb10 := hbl _ _ hb9 (Nat.le_refl _) (by omega)
          simp only [zeroGl, Gl.kind, Gl.frm, Gl.rcv, Gl.sort, Gl.name] at TB9 f09 f19 hb10
          generalize (((((((((w8.setCell ⟨w.heap.size, 0, none⟩ (.int .i64 0)).setCell ⟨w.heap.size, 1, none⟩ (.string ⟨([] : Str).toArray⟩)).setCell ⟨w.heap.size, 2, none⟩ (.string ⟨([] : Str).toArray⟩)).setCell ⟨w.heap.size, 3, none⟩ (.int .i64 0)).setCell ⟨w.heap.size, 4, none⟩ (.string ⟨([] : Str).toArray⟩)).setCell ⟨w.heap.size, 5, none⟩ (.slice none 0 0)).setCell ⟨w.heap.size, 6, none⟩ (.slice none 0 0)).setCell ⟨w.heap.size + 1, 0, none⟩ (.int .i64 E)).setCell ⟨w.heap.size + 1, 1, none⟩ (.int .i64 0)) = w9 at TB9 f09 f19 hb10 ⊢
          refine leaves_cons (f := 94) (args := #[.pointer (some ⟨w.heap.size, 0, none⟩), .pointer (some ⟨w.heap.size + 1, 0, none⟩)]) (by simp) (by simp [go_sem]) ?_
          refine (gcatch_idle (w.heap.size) (w.heap.size + 1) w9).mono ?_
          rintro e u' w10 ⟨rfl, rfl, hw⟩
          rw [hw]
          obtain ⟨y0, y1, y2, y3, y4, y5, y6, y7, y8⟩ := id TB9
          simp only [Gl.kind, Gl.frm, Gl.rcv, Gl.sort, Gl.name] at y0 y1 y2 y3 y4
          refine ⟨.tuple #[.agg #[.int .i64 0, .string ⟨#[]⟩, .string ⟨#[]⟩, .int .i64 0, .string ⟨#[]⟩, .slice none 0 0, .slice none 0 0], .agg #[.int .i64 E, .int .i64 0]], by simp [results, Tryd.results24, go_sem, y0, y1, y2, y3, y4, y5, y6, f09, f19], hb10, _, rfl, zero_gl _ _⟩
  · have hd : (2000 : Int) < (l.length : Int) := by omega
    go_enter_defers Tryd.func24, Tryd.ntmps24
    go_wp2_with fail
    have hres : gdParse l = (zeroGl, 2, 0) := by unfold gdParse; rw [if_pos (by omega)]
    obtain ⟨rfl, rfl, rfl⟩ : zeroGl = TT ∧ 2 = CC ∧ 0 = AA := by have hq := hres.symm.trans HA.out; simpa only [Prod.mk.injEq] using hq
    refine ⟨.tuple #[.agg #[.int .i64 0, .string ⟨#[]⟩, .string ⟨#[]⟩, .int .i64 0, .string ⟨#[]⟩, .slice none 0 0, .slice none 0 0], .agg #[.int .i64 2, .int .i64 0]], by simp [results, Tryd.results24, go_sem], by go_grown, _, rfl, zero_gl _ _⟩
end Go.Proofs.YtcacembpegoghaaDoor
