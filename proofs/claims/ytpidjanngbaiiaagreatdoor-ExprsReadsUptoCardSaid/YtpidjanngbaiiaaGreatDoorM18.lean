/-
  Parse of expressions: the program and the reference, from what their Begin answers.
  BeginExpr: what its rounds share.
-/
import Derived.Test.YtpidjanngbaiiaaGreatDoorM3
import Derived.Test.YtpidjanngbaiiaaGreatDoorM8
import Derived.Test.YtpidjanngbaiiaaGreatDoorM11
import Derived.Test.YtpidjanngbaiiaaGreatDoorYyQ
import Derived.Test.YtpidjanngbaiiaaGreatDoorM17
namespace Go.Proofs.YtpidjanngbaiiaaGreatDoor
open Go.RowKit Go.Proofs

set_option maxRecDepth 100000
theorem elaid2_facts (tb fb : Nat) {t0 : Ex} {kv0 y z : Value} (w : World) (TB : ExBox w tb t0 kv0) (hf0 : w.cell? ⟨fb, 0, none⟩ = some y) (hf1 : w.cell? ⟨fb, 1, none⟩ = some z) (hfz : ∀ j, w.frozen? ⟨fb, j, none⟩ = false) (h13 : ¬ tb = fb) (h31 : ¬ fb = tb) (t : Ex) (kv : Value) (c a : Int) :
  ExBox ((((((((w.setCell ⟨tb, 0, none⟩ (.int .i64 t.kind)).setCell ⟨tb, 1, none⟩ (.string ⟨t.name.toArray⟩)).setCell ⟨tb, 2, none⟩ (.int .i64 t.vs)).setCell ⟨tb, 3, none⟩ (.int .i64 t.vn)).setCell ⟨tb, 4, none⟩ (.string ⟨t.vt.toArray⟩)).setCell ⟨tb, 5, none⟩ kv).setCell ⟨fb, 0, none⟩ (.int .i64 c)).setCell ⟨fb, 1, none⟩ (.int .i64 a)) tb t kv ∧ ((((((((w.setCell ⟨tb, 0, none⟩ (.int .i64 t.kind)).setCell ⟨tb, 1, none⟩ (.string ⟨t.name.toArray⟩)).setCell ⟨tb, 2, none⟩ (.int .i64 t.vs)).setCell ⟨tb, 3, none⟩ (.int .i64 t.vn)).setCell ⟨tb, 4, none⟩ (.string ⟨t.vt.toArray⟩)).setCell ⟨tb, 5, none⟩ kv).setCell ⟨fb, 0, none⟩ (.int .i64 c)).setCell ⟨fb, 1, none⟩ (.int .i64 a)).cell? ⟨fb, 0, none⟩ = some (.int .i64 c) ∧ ((((((((w.setCell ⟨tb, 0, none⟩ (.int .i64 t.kind)).setCell ⟨tb, 1, none⟩ (.string ⟨t.name.toArray⟩)).setCell ⟨tb, 2, none⟩ (.int .i64 t.vs)).setCell ⟨tb, 3, none⟩ (.int .i64 t.vn)).setCell ⟨tb, 4, none⟩ (.string ⟨t.vt.toArray⟩)).setCell ⟨tb, 5, none⟩ kv).setCell ⟨fb, 0, none⟩ (.int .i64 c)).setCell ⟨fb, 1, none⟩ (.int .i64 a)).cell? ⟨fb, 1, none⟩ = some (.int .i64 a) ∧ (∀ j, ((((((((w.setCell ⟨tb, 0, none⟩ (.int .i64 t.kind)).setCell ⟨tb, 1, none⟩ (.string ⟨t.name.toArray⟩)).setCell ⟨tb, 2, none⟩ (.int .i64 t.vs)).setCell ⟨tb, 3, none⟩ (.int .i64 t.vn)).setCell ⟨tb, 4, none⟩ (.string ⟨t.vt.toArray⟩)).setCell ⟨tb, 5, none⟩ kv).setCell ⟨fb, 0, none⟩ (.int .i64 c)).setCell ⟨fb, 1, none⟩ (.int .i64 a)).frozen? ⟨fb, j, none⟩ = false) ∧ (∀ B v, Below B v w → B ≤ tb → B ≤ fb → Below B v ((((((((w.setCell ⟨tb, 0, none⟩ (.int .i64 t.kind)).setCell ⟨tb, 1, none⟩ (.string ⟨t.name.toArray⟩)).setCell ⟨tb, 2, none⟩ (.int .i64 t.vs)).setCell ⟨tb, 3, none⟩ (.int .i64 t.vn)).setCell ⟨tb, 4, none⟩ (.string ⟨t.vt.toArray⟩)).setCell ⟨tb, 5, none⟩ kv).setCell ⟨fb, 0, none⟩ (.int .i64 c)).setCell ⟨fb, 1, none⟩ (.int .i64 a))) ∧ Same (fun k => k ≠ tb ∧ k ≠ fb) w ((((((((w.setCell ⟨tb, 0, none⟩ (.int .i64 t.kind)).setCell ⟨tb, 1, none⟩ (.string ⟨t.name.toArray⟩)).setCell ⟨tb, 2, none⟩ (.int .i64 t.vs)).setCell ⟨tb, 3, none⟩ (.int .i64 t.vn)).setCell ⟨tb, 4, none⟩ (.string ⟨t.vt.toArray⟩)).setCell ⟨tb, 5, none⟩ kv).setCell ⟨fb, 0, none⟩ (.int .i64 c)).setCell ⟨fb, 1, none⟩ (.int .i64 a)) := by
 have V1 := TB.fill t kv
 have hc : ∀ (k o : Nat), ¬ tb = k → ((((((w.setCell ⟨tb, 0, none⟩ (.int .i64 t.kind)).setCell ⟨tb, 1, none⟩ (.string ⟨t.name.toArray⟩)).setCell ⟨tb, 2, none⟩ (.int .i64 t.vs)).setCell ⟨tb, 3, none⟩ (.int .i64 t.vn)).setCell ⟨tb, 4, none⟩ (.string ⟨t.vt.toArray⟩)).setCell ⟨tb, 5, none⟩ kv).cell? ⟨k, o, none⟩ = w.cell? ⟨k, o, none⟩ := by
  intro k o hk
  rw [World.cell?_setCell_far _ _ _ _ hk, World.cell?_setCell_far _ _ _ _ hk, World.cell?_setCell_far _ _ _ _ hk, World.cell?_setCell_far _ _ _ _ hk, World.cell?_setCell_far _ _ _ _ hk, World.cell?_setCell_far _ _ _ _ hk]
 have hz' : ∀ (k o : Nat), ((((((w.setCell ⟨tb, 0, none⟩ (.int .i64 t.kind)).setCell ⟨tb, 1, none⟩ (.string ⟨t.name.toArray⟩)).setCell ⟨tb, 2, none⟩ (.int .i64 t.vs)).setCell ⟨tb, 3, none⟩ (.int .i64 t.vn)).setCell ⟨tb, 4, none⟩ (.string ⟨t.vt.toArray⟩)).setCell ⟨tb, 5, none⟩ kv).frozen? ⟨k, o, none⟩ = w.frozen? ⟨k, o, none⟩ := fun k o => by simp only [World.frozen?_setCell]
 have e2 := (hc fb 0 h13).trans hf0
 have e3 := (hc fb 1 h13).trans hf1
 have ez := fun j => (hz' fb j).trans (hfz j)
 have hb : ∀ B v, Below B v w → B ≤ tb → Below B v ((((((w.setCell ⟨tb, 0, none⟩ (.int .i64 t.kind)).setCell ⟨tb, 1, none⟩ (.string ⟨t.name.toArray⟩)).setCell ⟨tb, 2, none⟩ (.int .i64 t.vs)).setCell ⟨tb, 3, none⟩ (.int .i64 t.vn)).setCell ⟨tb, 4, none⟩ (.string ⟨t.vt.toArray⟩)).setCell ⟨tb, 5, none⟩ kv) := fun B v h hB => below_fillEx h hB _ _ _ _ _ _
 have hs : Same (fun k => k ≠ tb ∧ k ≠ fb) w ((((((w.setCell ⟨tb, 0, none⟩ (.int .i64 t.kind)).setCell ⟨tb, 1, none⟩ (.string ⟨t.name.toArray⟩)).setCell ⟨tb, 2, none⟩ (.int .i64 t.vs)).setCell ⟨tb, 3, none⟩ (.int .i64 t.vn)).setCell ⟨tb, 4, none⟩ (.string ⟨t.vt.toArray⟩)).setCell ⟨tb, 5, none⟩ kv) := Same.fillEx (fun h => h.1 rfl) _ _ _ _ _ _
 have hz : ((((((w.setCell ⟨tb, 0, none⟩ (.int .i64 t.kind)).setCell ⟨tb, 1, none⟩ (.string ⟨t.name.toArray⟩)).setCell ⟨tb, 2, none⟩ (.int .i64 t.vs)).setCell ⟨tb, 3, none⟩ (.int .i64 t.vn)).setCell ⟨tb, 4, none⟩ (.string ⟨t.vt.toArray⟩)).setCell ⟨tb, 5, none⟩ kv).heap.size = w.heap.size := by simp only [World.size_setCell]
 clear hc hz'
 generalize ((((((w.setCell ⟨tb, 0, none⟩ (.int .i64 t.kind)).setCell ⟨tb, 1, none⟩ (.string ⟨t.name.toArray⟩)).setCell ⟨tb, 2, none⟩ (.int .i64 t.vs)).setCell ⟨tb, 3, none⟩ (.int .i64 t.vn)).setCell ⟨tb, 4, none⟩ (.string ⟨t.vt.toArray⟩)).setCell ⟨tb, 5, none⟩ kv) = w1 at V1 e2 e3 ez hb hs hz ⊢
 have V2 := (V1.far (p := ⟨fb, 0, none⟩) h31 (.int .i64 c)).far (p := ⟨fb, 1, none⟩) h31 (.int .i64 a)
 have ne : ∀ {w : World} {i j : Nat} {u : Value}, i ≠ j → (w.setCell ⟨fb, i, none⟩ u).cell? ⟨fb, j, none⟩ = w.cell? ⟨fb, j, none⟩ := fun h => World.cell?_setCell_other _ _ _ _ (fun e => h (by injection e))
 refine ⟨V2, ?_, ?_, fun j => by rw [World.frozen?_setCell, World.frozen?_setCell]; exact ez j, fun B v h h1 h3 => ((hb B v h h1).setCell h3 _).setCell h3 _, ?_⟩
 ·rw [ne (by decide)]
  exact World.cell?_setCell_same' _ _ _ (by rw [e2]; rfl)
 ·exact World.cell?_setCell_same' _ _ _ (by rw [ne (by decide), e3]; rfl)
 ·refine (hs.trans (by omega) (Same.set (fun h => h.2 rfl))).trans ?_ (Same.set (fun h => h.2 rfl))
  simp only [World.size_setCell]; omega
set_option maxHeartbeats 4000000 in
theorem eParse_of (l : Str) (w : World) (hl : l.length ≤ 9223372036854775807) (t : Ex) (n : Nat) (c : Int) (a : Nat) (hcall : ∀ W, Below w.heap.size w W → Calls Tryz.prog 19 #[.string ⟨l.toArray⟩, .int .i64 0] W fun e w' => Below W.heap.size W w' ∧ ∃ v, e = .returned (.tuple #[v, .int .i64 n, .agg #[.int .i64 c, .int .i64 a]]) ∧ ExV (fun k => W.heap.size ≤ k) w' v t)
  (TT : Ex) (CC : Int) (AA : Nat) (HP : Hid ((if c = 0 ∧ n < l.length then (zeroEx, 3, n) else (t, c, a)) = (TT, CC, AA))) :
  Calls Tryz.prog 17 #[.string ⟨l.toArray⟩] w fun e w' => Below w.heap.size w w' ∧ ∃ v, e = .returned (.tuple #[v, .agg #[.int .i64 CC, .int .i64 AA]]) ∧ ExV (fun k => w.heap.size ≤ k) w' v TT := by
 go_enter Tryz.func17, Tryz.ntmps17
 go_wp2_with fail
 obtain ⟨W, hW⟩ : ∃ x, (w.alloc (.cells #[.int .i64 0, .string ⟨#[]⟩, .int .i64 0, .int .i64 0, .string ⟨#[]⟩, .slice none 0 0] 52)).alloc (.cells #[.int .i64 0, .int .i64 0] 37) = x := ⟨_, rfl⟩
 have hbW : Below w.heap.size w W := by subst hW; go_grown
 have XB : ExBox W w.heap.size zeroEx (.slice none 0 0) := by subst hW; exact ⟨by simp [go_sem]; rfl, by simp [go_sem]; rfl, by simp [go_sem]; rfl, by simp [go_sem]; rfl, by simp [go_sem]; rfl, by simp [go_sem], fun j => by simp [go_sem], by simp; omega⟩
 have f0 : W.cell? ⟨w.heap.size + 1, 0, none⟩ = some (.int .i64 0) := by subst hW; simp [go_sem]
 have f1 : W.cell? ⟨w.heap.size + 1, 1, none⟩ = some (.int .i64 0) := by subst hW; simp [go_sem]
 have fz : ∀ j, W.frozen? ⟨w.heap.size + 1, j, none⟩ = false := by subst hW; intro j; simp [go_sem]
 rw [hW]
 clear hW
 refine (hcall W hbW).mono ?_; clear hcall
 rintro e w1 ⟨hb1, v, rfl, hT⟩
 have XB1 := XB.keep hb1 XB.lt
 have f01 := cell_keep f0 hb1
 have f11 := cell_keep f1 hb1
 have fz1 : ∀ j, w1.frozen? ⟨w.heap.size + 1, j, none⟩ = false := fun j => (hb1.frozen (p := ⟨w.heap.size + 1, j, none⟩) (cell_lt f0)).trans (fz j)
 have hbw1 := chain hbW hb1
 have hFW := cell_lt f0
 have hFW1 := hb1.size
 clear XB f0 f1 fz hbW hb1
 obtain ⟨A2, n2, c2, rfl, k2⟩ := hT.one'
 obtain ⟨rfl, -, -, -⟩ := k2.src
 have K2 := Lib.hid (k2.keep (D' := fun k => w.heap.size + 1 < k) (Same.refl _ _) (fun k hk _ => by have : W.heap.size ≤ k := hk; omega))
 have hFW2 : w.heap.size + 1 < w1.heap.size := by omega
 clear hFW hFW1 k2 hT
 clear W
 have hd0 : ¬ w.heap.size = w.heap.size + 1 := by omega
 have hd9 : ¬ w.heap.size + 1 = w.heap.size := by omega
 rename_i Kx hkx Ky hky
 have HKX := Lib.hid hkx
 clear hkx
 obtain ⟨z0, z1, z2, z3, z4, z5, z6, z7⟩ := id XB1
 go_wp2_with fail
 obtain ⟨TB2, f02, f12, fz2, hbl, hsm⟩ := elaid2_facts w.heap.size (w.heap.size + 1) w1 XB1 f01 f11 fz1 hd0 hd9 t (.slice A2 t.kids.length c2) c (a : Int)
 have hbw2 := hbl _ _ hbw1 (Nat.le_refl _) (by omega)
 have K3 := Lib.hid (K2.out.keep (D' := fun k => w.heap.size + 1 < k) (fun k hk hl => hsm k (by have : w.heap.size + 1 < k := hk; omega) hl) (fun k hk _ => hk))
 generalize ((((((((w1.setCell ⟨w.heap.size, 0, none⟩ (.int .i64 t.kind)).setCell ⟨w.heap.size, 1, none⟩ (.string ⟨t.name.toArray⟩)).setCell ⟨w.heap.size, 2, none⟩ (.int .i64 t.vs)).setCell ⟨w.heap.size, 3, none⟩ (.int .i64 t.vn)).setCell ⟨w.heap.size, 4, none⟩ (.string ⟨t.vt.toArray⟩)).setCell ⟨w.heap.size, 5, none⟩ (.slice A2 t.kids.length c2)).setCell ⟨w.heap.size + 1, 0, none⟩ (.int .i64 c)).setCell ⟨w.heap.size + 1, 1, none⟩ (.int .i64 (a : Int))) = w2 at TB2 f02 f12 fz2 hbw2 K3 ⊢
 clear z0 z1 z2 z3 z4 z5 z6 z7 XB1 f01 f11 fz1 hbw1 hbl hsm K2 hFW2
 clear w1
 refine HKX.out _ _ ?_
 clear HKX
 obtain ⟨x0, x1, x2, x3, x4, x5, x6, x7⟩ := id TB2
 by_cases hcn : c = 0 ∧ n < l.length
 ·obtain ⟨hc, hnl⟩ := hcn
  have hq := HP.out
  rw [if_pos ⟨hc, hnl⟩] at hq
  simp only [Prod.mk.injEq] at hq
  obtain ⟨rfl, rfl, rfl⟩ := hq
  have hnl' : (n : Int) < (l.length : Int) := by omega
  have hcb : (c == 0) = true := by simp [hc]
  clear hc HP
  go_wp2_with fail
  obtain ⟨TB9, f09, f19, -, hbl, hsm⟩ := elaid2_facts w.heap.size (w.heap.size + 1) w2 TB2 f02 f12 fz2 hd0 hd9 zeroEx (.slice none 0 0) 3 (n : Int)
  have hbN := hbl _ _ hbw2 (Nat.le_refl _) (by omega)
  simp only [zeroEx, Ex.kind, Ex.name, Ex.vs, Ex.vn, Ex.vt] at TB9 f09 f19 hbN
  generalize ((((((((w2.setCell ⟨w.heap.size, 0, none⟩ (.int .i64 0)).setCell ⟨w.heap.size, 1, none⟩ (.string ⟨([] : Str).toArray⟩)).setCell ⟨w.heap.size, 2, none⟩ (.int .i64 0)).setCell ⟨w.heap.size, 3, none⟩ (.int .i64 0)).setCell ⟨w.heap.size, 4, none⟩ (.string ⟨([] : Str).toArray⟩)).setCell ⟨w.heap.size, 5, none⟩ (.slice none 0 0)).setCell ⟨w.heap.size + 1, 0, none⟩ (.int .i64 3)).setCell ⟨w.heap.size + 1, 1, none⟩ (.int .i64 (n : Int))) = w9 at TB9 f09 f19 hbN ⊢
  obtain ⟨y0, y1, y2, y3, y4, y5, y6, y7⟩ := id TB9
  simp only [Ex.kind, Ex.name, Ex.vs, Ex.vn, Ex.vt] at y0 y1 y2 y3 y4
  refine bodyPost_ret (v := .tuple #[.agg #[.int .i64 0, .string ⟨#[]⟩, .int .i64 0, .int .i64 0, .string ⟨#[]⟩, .slice none 0 0], .agg #[.int .i64 3, .int .i64 (n : Int)]]) (by simp [results, Tryz.results17, go_sem, y0, y1, y2, y3, y4, y5, f09, f19]) rfl ?_
  exact ⟨hbN, _, rfl, zero_ex _ _⟩
 ·have hq := HP.out
  rw [if_neg hcn] at hq
  simp only [Prod.mk.injEq] at hq
  obtain ⟨rfl, rfl, rfl⟩ := hq
  by_cases hc : c = 0
  ·have hcb : (c == 0) = true := by simp [hc]
   have hnl' : ¬ (n : Int) < (l.length : Int) := by intro h; exact hcn ⟨hc, by omega⟩
   clear hcn HP hc
   go_wp2_with fail
   go_region
   go_wp2_with fail
   obtain ⟨TB9, f09, f19, -, hbl, hsm⟩ := elaid2_facts w.heap.size (w.heap.size + 1) w2 TB2 f02 f12 fz2 hd0 hd9 t (.slice A2 t.kids.length c2) c (a : Int)
   have hbN := (hbl _ _ hbw2 (Nat.le_refl _) (by omega)).drew
   have K3 := K3.out.keep (D' := fun k => w.heap.size ≤ k) (fun k hk hl => hsm k (by have : w.heap.size + 1 < k := hk; omega) hl) (fun k hk _ => by have : w.heap.size + 1 < k := hk; omega)
   generalize ((((((((w2.setCell ⟨w.heap.size, 0, none⟩ (.int .i64 t.kind)).setCell ⟨w.heap.size, 1, none⟩ (.string ⟨t.name.toArray⟩)).setCell ⟨w.heap.size, 2, none⟩ (.int .i64 t.vs)).setCell ⟨w.heap.size, 3, none⟩ (.int .i64 t.vn)).setCell ⟨w.heap.size, 4, none⟩ (.string ⟨t.vt.toArray⟩)).setCell ⟨w.heap.size, 5, none⟩ (.slice A2 t.kids.length c2)).setCell ⟨w.heap.size + 1, 0, none⟩ (.int .i64 c)).setCell ⟨w.heap.size + 1, 1, none⟩ (.int .i64 (a : Int))) = w9 at TB9 f09 f19 hbN K3 ⊢
   have TB10 : ExBox w9.drew w.heap.size t (.slice A2 t.kids.length c2) := ⟨TB9.c0, TB9.c1, TB9.c2, TB9.c3, TB9.c4, TB9.c5, TB9.fr, TB9.lt⟩
   have f10 : w9.drew.cell? ⟨w.heap.size + 1, 0, none⟩ = some (.int .i64 c) := f09
   have f11 : w9.drew.cell? ⟨w.heap.size + 1, 1, none⟩ = some (.int .i64 (a : Int)) := f19
   have K5 := K3.keep (D' := fun k => w.heap.size ≤ k) (w' := w9.drew) (fun _ _ _ => rfl) (fun _ h _ => h)
   generalize w9.drew = w11 at TB10 f10 f11 hbN K5 ⊢
   obtain ⟨y0, y1, y2, y3, y4, y5, y6, y7⟩ := id TB10
   refine bodyPost_ret (v := .tuple #[.agg #[.int .i64 t.kind, .string ⟨t.name.toArray⟩, .int .i64 t.vs, .int .i64 t.vn, .string ⟨t.vt.toArray⟩, (.slice A2 t.kids.length c2)], .agg #[.int .i64 c, .int .i64 (a : Int)]]) (by simp [results, Tryz.results17, go_sem, y0, y1, y2, y3, y4, y5, f10, f11]) rfl ?_
   exact ⟨hbN, _, rfl, exV_of K5⟩
  ·have hcb : (c == 0) = false := by simpa using hc
   clear hcn HP
   go_wp2_with fail
   go_region
   go_wp2_with fail
   obtain ⟨TB9, f09, f19, -, hbl, hsm⟩ := elaid2_facts w.heap.size (w.heap.size + 1) w2 TB2 f02 f12 fz2 hd0 hd9 t (.slice A2 t.kids.length c2) c (a : Int)
   have hbN := (hbl _ _ hbw2 (Nat.le_refl _) (by omega)).drew
   have K3 := K3.out.keep (D' := fun k => w.heap.size ≤ k) (fun k hk hl => hsm k (by have : w.heap.size + 1 < k := hk; omega) hl) (fun k hk _ => by have : w.heap.size + 1 < k := hk; omega)
   generalize ((((((((w2.setCell ⟨w.heap.size, 0, none⟩ (.int .i64 t.kind)).setCell ⟨w.heap.size, 1, none⟩ (.string ⟨t.name.toArray⟩)).setCell ⟨w.heap.size, 2, none⟩ (.int .i64 t.vs)).setCell ⟨w.heap.size, 3, none⟩ (.int .i64 t.vn)).setCell ⟨w.heap.size, 4, none⟩ (.string ⟨t.vt.toArray⟩)).setCell ⟨w.heap.size, 5, none⟩ (.slice A2 t.kids.length c2)).setCell ⟨w.heap.size + 1, 0, none⟩ (.int .i64 c)).setCell ⟨w.heap.size + 1, 1, none⟩ (.int .i64 (a : Int))) = w9 at TB9 f09 f19 hbN K3 ⊢
   have TB10 : ExBox w9.drew w.heap.size t (.slice A2 t.kids.length c2) := ⟨TB9.c0, TB9.c1, TB9.c2, TB9.c3, TB9.c4, TB9.c5, TB9.fr, TB9.lt⟩
   have f10 : w9.drew.cell? ⟨w.heap.size + 1, 0, none⟩ = some (.int .i64 c) := f09
   have f11 : w9.drew.cell? ⟨w.heap.size + 1, 1, none⟩ = some (.int .i64 (a : Int)) := f19
   have K5 := K3.keep (D' := fun k => w.heap.size ≤ k) (w' := w9.drew) (fun _ _ _ => rfl) (fun _ h _ => h)
   generalize w9.drew = w11 at TB10 f10 f11 hbN K5 ⊢
   obtain ⟨y0, y1, y2, y3, y4, y5, y6, y7⟩ := id TB10
   refine bodyPost_ret (v := .tuple #[.agg #[.int .i64 t.kind, .string ⟨t.name.toArray⟩, .int .i64 t.vs, .int .i64 t.vn, .string ⟨t.vt.toArray⟩, (.slice A2 t.kids.length c2)], .agg #[.int .i64 c, .int .i64 (a : Int)]]) (by simp [results, Tryz.results17, go_sem, y0, y1, y2, y3, y4, y5, f10, f11]) rfl ?_
   exact ⟨hbN, _, rfl, exV_of K5⟩

set_option maxHeartbeats 4000000 in
theorem rParse_of (l : Str) (w : World) (hl : l.length ≤ 9223372036854775807) (t : Ex) (n : Nat) (c : Int) (a : Nat) (hcall : ∀ W, Below w.heap.size w W → Calls Tryz.prog 20 #[.string ⟨l.toArray⟩, .int .i64 0] W fun e w' => Below W.heap.size W w' ∧ ∃ v, e = .returned (.tuple #[v, .int .i64 n, .agg #[.int .i64 c, .int .i64 a]]) ∧ ExV (fun k => W.heap.size ≤ k) w' v t)
  (TT : Ex) (CC : Int) (AA : Nat) (HP : Hid ((if c = 0 ∧ n < l.length then (zeroEx, 3, n) else (t, c, a)) = (TT, CC, AA))) :
  Calls Tryz.prog 18 #[.string ⟨l.toArray⟩] w fun e w' => Below w.heap.size w w' ∧ ∃ v, e = .returned (.tuple #[v, .agg #[.int .i64 CC, .int .i64 AA]]) ∧ ExV (fun k => w.heap.size ≤ k) w' v TT := by
 go_enter Tryz.func18, Tryz.ntmps18
 go_wp2_with fail
 obtain ⟨W, hW⟩ : ∃ x, (w.alloc (.cells #[.int .i64 0, .string ⟨#[]⟩, .int .i64 0, .int .i64 0, .string ⟨#[]⟩, .slice none 0 0] 52)).alloc (.cells #[.int .i64 0, .int .i64 0] 37) = x := ⟨_, rfl⟩
 have hbW : Below w.heap.size w W := by subst hW; go_grown
 have XB : ExBox W w.heap.size zeroEx (.slice none 0 0) := by subst hW; exact ⟨by simp [go_sem]; rfl, by simp [go_sem]; rfl, by simp [go_sem]; rfl, by simp [go_sem]; rfl, by simp [go_sem]; rfl, by simp [go_sem], fun j => by simp [go_sem], by simp; omega⟩
 have f0 : W.cell? ⟨w.heap.size + 1, 0, none⟩ = some (.int .i64 0) := by subst hW; simp [go_sem]
 have f1 : W.cell? ⟨w.heap.size + 1, 1, none⟩ = some (.int .i64 0) := by subst hW; simp [go_sem]
 have fz : ∀ j, W.frozen? ⟨w.heap.size + 1, j, none⟩ = false := by subst hW; intro j; simp [go_sem]
 rw [hW]
 clear hW
 refine (hcall W hbW).mono ?_; clear hcall
 rintro e w1 ⟨hb1, v, rfl, hT⟩
 have XB1 := XB.keep hb1 XB.lt
 have f01 := cell_keep f0 hb1
 have f11 := cell_keep f1 hb1
 have fz1 : ∀ j, w1.frozen? ⟨w.heap.size + 1, j, none⟩ = false := fun j => (hb1.frozen (p := ⟨w.heap.size + 1, j, none⟩) (cell_lt f0)).trans (fz j)
 have hbw1 := chain hbW hb1
 have hFW := cell_lt f0
 have hFW1 := hb1.size
 clear XB f0 f1 fz hbW hb1
 obtain ⟨A2, n2, c2, rfl, k2⟩ := hT.one'
 obtain ⟨rfl, -, -, -⟩ := k2.src
 have K2 := Lib.hid (k2.keep (D' := fun k => w.heap.size + 1 < k) (Same.refl _ _) (fun k hk _ => by have : W.heap.size ≤ k := hk; omega))
 have hFW2 : w.heap.size + 1 < w1.heap.size := by omega
 clear hFW hFW1 k2 hT
 clear W
 have hd0 : ¬ w.heap.size = w.heap.size + 1 := by omega
 have hd9 : ¬ w.heap.size + 1 = w.heap.size := by omega
 rename_i Kx hkx Ky hky
 have HKX := Lib.hid hkx
 clear hkx
 have hs1 : w.heap.size < w1.heap.size := XB1.lt
 go_wp2_with fail
 have hb2 : Below w1.heap.size w1 ((w1.alloc (.cells #[.int .i64 t.kind, .string ⟨t.name.toArray⟩, .int .i64 t.vs, .int .i64 t.vn, .string ⟨t.vt.toArray⟩, (.slice A2 t.kids.length c2)] 52)).alloc (.cells #[.int .i64 c, .int .i64 (a : Int)] 37)) := ((Below.refl _ _).alloc (Nat.le_refl _) _).alloc (by simp) _
 have XB2 := XB1.keep hb2 XB1.lt
 have f02 := cell_keep f01 hb2
 have f12 := cell_keep f11 hb2
 have fz2 : ∀ j, ((w1.alloc (.cells #[.int .i64 t.kind, .string ⟨t.name.toArray⟩, .int .i64 t.vs, .int .i64 t.vn, .string ⟨t.vt.toArray⟩, (.slice A2 t.kids.length c2)] 52)).alloc (.cells #[.int .i64 c, .int .i64 (a : Int)] 37)).frozen? ⟨w.heap.size + 1, j, none⟩ = false := fun j => (hb2.frozen (p := ⟨w.heap.size + 1, j, none⟩) (cell_lt f01)).trans (fz1 j)
 have hbw2 := chain hbw1 hb2
 have TB2 : ExBox ((w1.alloc (.cells #[.int .i64 t.kind, .string ⟨t.name.toArray⟩, .int .i64 t.vs, .int .i64 t.vn, .string ⟨t.vt.toArray⟩, (.slice A2 t.kids.length c2)] 52)).alloc (.cells #[.int .i64 c, .int .i64 (a : Int)] 37)) w1.heap.size t (.slice A2 t.kids.length c2) := ⟨by simp [go_sem], by simp [go_sem], by simp [go_sem], by simp [go_sem], by simp [go_sem], by simp [go_sem], fun j => by simp [go_sem], by simp; omega⟩
 have g0 : ((w1.alloc (.cells #[.int .i64 t.kind, .string ⟨t.name.toArray⟩, .int .i64 t.vs, .int .i64 t.vn, .string ⟨t.vt.toArray⟩, (.slice A2 t.kids.length c2)] 52)).alloc (.cells #[.int .i64 c, .int .i64 (a : Int)] 37)).cell? ⟨w1.heap.size + 1, 0, none⟩ = some (.int .i64 c) := by simp [go_sem]
 have g1 : ((w1.alloc (.cells #[.int .i64 t.kind, .string ⟨t.name.toArray⟩, .int .i64 t.vs, .int .i64 t.vn, .string ⟨t.vt.toArray⟩, (.slice A2 t.kids.length c2)] 52)).alloc (.cells #[.int .i64 c, .int .i64 (a : Int)] 37)).cell? ⟨w1.heap.size + 1, 1, none⟩ = some (.int .i64 (a : Int)) := by simp [go_sem]
 have K3 := Lib.hid (K2.out.keep (D' := fun k => w.heap.size + 1 < k) (Same.below hb2) (fun _ h _ => h))
 generalize ((w1.alloc (.cells #[.int .i64 t.kind, .string ⟨t.name.toArray⟩, .int .i64 t.vs, .int .i64 t.vn, .string ⟨t.vt.toArray⟩, (.slice A2 t.kids.length c2)] 52)).alloc (.cells #[.int .i64 c, .int .i64 (a : Int)] 37)) = w2 at XB2 f02 f12 fz2 hbw2 TB2 g0 g1 K3 ⊢
 clear hb2 XB1 f01 f11 fz1 hbw1 K2
 generalize w1.heap.size = T at TB2 g0 g1 hFW2 hs1 ⊢
 clear w1
 refine HKX.out _ _ ?_
 clear HKX
 have hd1 : ¬ w.heap.size = T := by omega
 have hd2 : ¬ w.heap.size = T + 1 := by omega
 have hd3 : ¬ w.heap.size + 1 = T := by omega
 have hd4 : ¬ w.heap.size + 1 = T + 1 := by omega
 obtain ⟨x0, x1, x2, x3, x4, x5, x6, x7⟩ := id XB2
 obtain ⟨t0, t1, t2, t3, t4, t5, t6, t7⟩ := id TB2
 by_cases hcn : c = 0 ∧ n < l.length
 ·obtain ⟨hc, hnl⟩ := hcn
  have hq := HP.out
  rw [if_pos ⟨hc, hnl⟩] at hq
  simp only [Prod.mk.injEq] at hq
  obtain ⟨rfl, rfl, rfl⟩ := hq
  have hnl' : (n : Int) < (l.length : Int) := by omega
  have hcb : (c == 0) = true := by simp [hc]
  clear hc HP
  go_wp2_with fail
  obtain ⟨TB9, f09, f19, -, hbl, hsm⟩ := elaid2_facts w.heap.size (w.heap.size + 1) w2 XB2 f02 f12 fz2 hd0 hd9 zeroEx (.slice none 0 0) 3 (n : Int)
  have hbN := hbl _ _ hbw2 (Nat.le_refl _) (by omega)
  simp only [zeroEx, Ex.kind, Ex.name, Ex.vs, Ex.vn, Ex.vt] at TB9 f09 f19 hbN
  generalize ((((((((w2.setCell ⟨w.heap.size, 0, none⟩ (.int .i64 0)).setCell ⟨w.heap.size, 1, none⟩ (.string ⟨([] : Str).toArray⟩)).setCell ⟨w.heap.size, 2, none⟩ (.int .i64 0)).setCell ⟨w.heap.size, 3, none⟩ (.int .i64 0)).setCell ⟨w.heap.size, 4, none⟩ (.string ⟨([] : Str).toArray⟩)).setCell ⟨w.heap.size, 5, none⟩ (.slice none 0 0)).setCell ⟨w.heap.size + 1, 0, none⟩ (.int .i64 3)).setCell ⟨w.heap.size + 1, 1, none⟩ (.int .i64 (n : Int))) = w9 at TB9 f09 f19 hbN ⊢
  obtain ⟨y0, y1, y2, y3, y4, y5, y6, y7⟩ := id TB9
  simp only [Ex.kind, Ex.name, Ex.vs, Ex.vn, Ex.vt] at y0 y1 y2 y3 y4
  refine bodyPost_ret (v := .tuple #[.agg #[.int .i64 0, .string ⟨#[]⟩, .int .i64 0, .int .i64 0, .string ⟨#[]⟩, .slice none 0 0], .agg #[.int .i64 3, .int .i64 (n : Int)]]) (by simp [results, Tryz.results18, go_sem, y0, y1, y2, y3, y4, y5, f09, f19]) rfl ?_
  exact ⟨hbN, _, rfl, zero_ex _ _⟩
 ·have hq := HP.out
  rw [if_neg hcn] at hq
  simp only [Prod.mk.injEq] at hq
  obtain ⟨rfl, rfl, rfl⟩ := hq
  by_cases hc : c = 0
  ·have hcb : (c == 0) = true := by simp [hc]
   have hnl' : ¬ (n : Int) < (l.length : Int) := by intro h; exact hcn ⟨hc, by omega⟩
   clear hcn HP hc
   go_wp2_with fail
   go_region
   go_wp2_with fail
   obtain ⟨TB9, f09, f19, -, hbl, hsm⟩ := elaid2_facts w.heap.size (w.heap.size + 1) w2 XB2 f02 f12 fz2 hd0 hd9 t (.slice A2 t.kids.length c2) c (a : Int)
   have hbN := (hbl _ _ hbw2 (Nat.le_refl _) (by omega)).drew
   have K3 := K3.out.keep (D' := fun k => w.heap.size ≤ k) (fun k hk hl => hsm k (by have : w.heap.size + 1 < k := hk; omega) hl) (fun k hk _ => by have : w.heap.size + 1 < k := hk; omega)
   generalize ((((((((w2.setCell ⟨w.heap.size, 0, none⟩ (.int .i64 t.kind)).setCell ⟨w.heap.size, 1, none⟩ (.string ⟨t.name.toArray⟩)).setCell ⟨w.heap.size, 2, none⟩ (.int .i64 t.vs)).setCell ⟨w.heap.size, 3, none⟩ (.int .i64 t.vn)).setCell ⟨w.heap.size, 4, none⟩ (.string ⟨t.vt.toArray⟩)).setCell ⟨w.heap.size, 5, none⟩ (.slice A2 t.kids.length c2)).setCell ⟨w.heap.size + 1, 0, none⟩ (.int .i64 c)).setCell ⟨w.heap.size + 1, 1, none⟩ (.int .i64 (a : Int))) = w9 at TB9 f09 f19 hbN K3 ⊢
   have TB10 : ExBox w9.drew w.heap.size t (.slice A2 t.kids.length c2) := ⟨TB9.c0, TB9.c1, TB9.c2, TB9.c3, TB9.c4, TB9.c5, TB9.fr, TB9.lt⟩
   have f10 : w9.drew.cell? ⟨w.heap.size + 1, 0, none⟩ = some (.int .i64 c) := f09
   have f11 : w9.drew.cell? ⟨w.heap.size + 1, 1, none⟩ = some (.int .i64 (a : Int)) := f19
   have K5 := K3.keep (D' := fun k => w.heap.size ≤ k) (w' := w9.drew) (fun _ _ _ => rfl) (fun _ h _ => h)
   generalize w9.drew = w11 at TB10 f10 f11 hbN K5 ⊢
   obtain ⟨y0, y1, y2, y3, y4, y5, y6, y7⟩ := id TB10
   refine bodyPost_ret (v := .tuple #[.agg #[.int .i64 t.kind, .string ⟨t.name.toArray⟩, .int .i64 t.vs, .int .i64 t.vn, .string ⟨t.vt.toArray⟩, (.slice A2 t.kids.length c2)], .agg #[.int .i64 c, .int .i64 (a : Int)]]) (by simp [results, Tryz.results18, go_sem, y0, y1, y2, y3, y4, y5, f10, f11]) rfl ?_
   exact ⟨hbN, _, rfl, exV_of K5⟩
  ·have hcb : (c == 0) = false := by simpa using hc
   clear hcn HP
   go_wp2_with fail
   go_region
   go_wp2_with fail
   obtain ⟨TB9, f09, f19, -, hbl, hsm⟩ := elaid2_facts w.heap.size (w.heap.size + 1) w2 XB2 f02 f12 fz2 hd0 hd9 t (.slice A2 t.kids.length c2) c (a : Int)
   have hbN := (hbl _ _ hbw2 (Nat.le_refl _) (by omega)).drew
   have K3 := K3.out.keep (D' := fun k => w.heap.size ≤ k) (fun k hk hl => hsm k (by have : w.heap.size + 1 < k := hk; omega) hl) (fun k hk _ => by have : w.heap.size + 1 < k := hk; omega)
   generalize ((((((((w2.setCell ⟨w.heap.size, 0, none⟩ (.int .i64 t.kind)).setCell ⟨w.heap.size, 1, none⟩ (.string ⟨t.name.toArray⟩)).setCell ⟨w.heap.size, 2, none⟩ (.int .i64 t.vs)).setCell ⟨w.heap.size, 3, none⟩ (.int .i64 t.vn)).setCell ⟨w.heap.size, 4, none⟩ (.string ⟨t.vt.toArray⟩)).setCell ⟨w.heap.size, 5, none⟩ (.slice A2 t.kids.length c2)).setCell ⟨w.heap.size + 1, 0, none⟩ (.int .i64 c)).setCell ⟨w.heap.size + 1, 1, none⟩ (.int .i64 (a : Int))) = w9 at TB9 f09 f19 hbN K3 ⊢
   have TB10 : ExBox w9.drew w.heap.size t (.slice A2 t.kids.length c2) := ⟨TB9.c0, TB9.c1, TB9.c2, TB9.c3, TB9.c4, TB9.c5, TB9.fr, TB9.lt⟩
   have f10 : w9.drew.cell? ⟨w.heap.size + 1, 0, none⟩ = some (.int .i64 c) := f09
   have f11 : w9.drew.cell? ⟨w.heap.size + 1, 1, none⟩ = some (.int .i64 (a : Int)) := f19
   have K5 := K3.keep (D' := fun k => w.heap.size ≤ k) (w' := w9.drew) (fun _ _ _ => rfl) (fun _ h _ => h)
   generalize w9.drew = w11 at TB10 f10 f11 hbN K5 ⊢
   obtain ⟨y0, y1, y2, y3, y4, y5, y6, y7⟩ := id TB10
   refine bodyPost_ret (v := .tuple #[.agg #[.int .i64 t.kind, .string ⟨t.name.toArray⟩, .int .i64 t.vs, .int .i64 t.vn, .string ⟨t.vt.toArray⟩, (.slice A2 t.kids.length c2)], .agg #[.int .i64 c, .int .i64 (a : Int)]]) (by simp [results, Tryz.results18, go_sem, y0, y1, y2, y3, y4, y5, f10, f11]) rfl ?_
   exact ⟨hbN, _, rfl, exV_of K5⟩
set_option maxRecDepth 100000
abbrev xYR (l : Str) := Yd.YR unX biX (opdP l) (ebin l) (eclose l) (sk l)
structure YS (w wr : World) (base Y : Nat) (l : Str) (RES : Yd.Res Ex) (p n : Nat) (opnd : Bool) (ops : List Yd.Op) (vals : List Ex) (ov vv : Value) (xs : List Value) : Prop where
 run : xYR l ops vals n opnd p RES
 bi : Yd.nBi ops + (if opnd then 0 else 1) = vals.length
 br : Yd.nBr ops = n
 ok : ∀ o ∈ ops, OpOk o
 sz : ops.length + vals.length ≤ p
 pl : p ≤ l.length
 yd : Yard wr base Y ov vv ((ops.map opStr).reverse) xs vals.reverse
 xb : ExBox wr w.heap.size zeroEx (.slice none 0 0)
 f0 : wr.cell? ⟨w.heap.size + 1, 0, none⟩ = some (.int .i64 0)
 f1 : wr.cell? ⟨w.heap.size + 1, 1, none⟩ = some (.int .i64 0)
 fz : ∀ j, wr.frozen? ⟨w.heap.size + 1, j, none⟩ = false
 bl : Below w.heap.size w wr
theorem YS.below {w wr w' : World} {base Y : Nat} {l : Str} {RES : Yd.Res Ex} {p n : Nat} {opnd : Bool} {ops : List Yd.Op} {vals : List Ex} {ov vv : Value} {xs : List Value} (h : YS w wr base Y l RES p n opnd ops vals ov vv xs) (hb : Below wr.heap.size wr w') : YS w w' base Y l RES p n opnd ops vals ov vv xs :=
 ⟨h.run, h.bi, h.br, h.ok, h.sz, h.pl, h.yd.below hb, h.xb.keep hb h.xb.lt, cell_keep h.f0 hb, cell_keep h.f1 hb, fun j => (hb.frozen (p := ⟨w.heap.size + 1, j, none⟩) (cell_lt h.f0)).trans (h.fz j), chain h.bl hb⟩
theorem YS.pushOp {w w6 w7 : World} {l : Str} {RES : Yd.Res Ex} {p n p' n' : Nat} {o o' : Bool} {ops : List Yd.Op} {vals : List Ex} {ov vv v7 : Value} {xs : List Value} (h : YS w w6 (w.heap.size + 1 + 1 + 1) (w.heap.size + 1 + 1) l RES p n o ops vals ov vv xs) (D : Yd.Op)
  (k1 : w7.ownsRow (w.heap.size + 1 + 1 + 1) 9 1 v7 (((ops.map opStr).reverse).length + 1) (strsOf ((ops.map opStr).reverse) ++ [.string ⟨(opStr D).toArray⟩])) (k2 : w6.grownBy w7 ov.ownBlock) (k3 : v7.ownBlock = ov.ownBlock ∨ v7.ownBlock = some w6.heap.size) (k4 : Below (w.heap.size + 1 + 1 + 1) w6 w7)
  (run : xYR l (D :: ops) vals n' o' p' RES) (bi : Yd.nBi (D :: ops) + (if o' then 0 else 1) = vals.length) (br : Yd.nBr (D :: ops) = n') (ok : OpOk D) (hp : p < p') (pl : p' ≤ l.length) :
  YS w (w7.setCell ⟨w.heap.size + 1 + 1, 0, none⟩ v7) (w.heap.size + 1 + 1 + 1) (w.heap.size + 1 + 1) l RES p' n' o' (D :: ops) vals v7 vv xs := by
 have hOL : ((D :: ops).map opStr).reverse = (ops.map opStr).reverse ++ [opStr D] := by rw [List.map_cons, List.reverse_cons]
 have hc : ∀ (b j : Nat) (v : Value), b < w.heap.size + 1 + 1 → w6.cell? ⟨b, j, none⟩ = some v → (w7.setCell ⟨w.heap.size + 1 + 1, 0, none⟩ v7).cell? ⟨b, j, none⟩ = some v := fun b j v hb hv => (World.cell?_setCell_far _ _ _ _ (by show ¬ w.heap.size + 1 + 1 = b; omega)).trans ((k4.cell (p := ⟨b, j, none⟩) (by show b < _; omega)).trans hv)
 refine ⟨run, bi, br, fun x hx => ?_, by have := h.sz; simp only [List.length_cons]; omega, pl, ?_, (h.xb.keep k4 (by omega)).far (by show ¬ w.heap.size + 1 + 1 = w.heap.size; omega) _, hc _ _ _ (by omega) h.f0, hc _ _ _ (by omega) h.f1, fun j => ?_, ?_⟩
 ·rcases List.mem_cons.1 hx with rfl | hx
  ·exact ok
  ·exact h.ok x hx
 ·rw [hOL]
  refine h.yd.setOps (w' := w7) v7 _ ?_ k2.size (fun k hk hne => k2.block k hk hne) ?_
  ·rw [List.length_append]
   have e : strsOf ((ops.map opStr).reverse ++ [opStr D]) = strsOf ((ops.map opStr).reverse) ++ [.string ⟨(opStr D).toArray⟩] := by unfold strsOf; rw [List.map_append]; rfl
   rw [e]
   exact k1
  ·rcases k3 with k | k
   ·exact Or.inl k
   ·exact Or.inr ⟨_, k, Nat.le_refl _⟩
 ·rw [World.frozen?_setCell]
  exact (k4.frozen (p := ⟨w.heap.size + 1, j, none⟩) (by show w.heap.size + 1 < _; omega)).trans (h.fz j)
 ·exact (h.bl.trans (k4.mono (by omega))).setCell (by show w.heap.size ≤ w.heap.size + 1 + 1; omega) _
def beLoop : Code → Option Code
 | .seq a b => match beLoop a with
  | some c => some c
  | none => beLoop b
 | .block _ c => beLoop c
 | .loop c => some c
 | _ => none
def beBlk : Code → Code
 | .block _ c => c
 | _ => .skip
def beFst : Code → Code
 | .seq c _ => c
 | c => c
def beThen : Code → Code
 | .cond _ c _ => c
 | c => c
noncomputable def beIn : Code := beBlk (((Tryz.f20.body).bind beLoop).getD .skip)
noncomputable def be8 : Code := ydSnd beIn
noncomputable def beA : Code := beThen (ydSnd (beFst be8))
noncomputable def beB : Code := ydSnd be8
theorem nbr_le : ∀ ops : List Yd.Op, Yd.nBr ops ≤ ops.length
 | [] => Nat.le_refl _
 | .br :: r => by have := nbr_le r; simp only [Yd.nBr, List.length_cons]; omega
 | .bi _ _ :: r => by have := nbr_le r; simp only [Yd.nBr, List.length_cons]; omega
 | .un _ :: r => by have := nbr_le r; simp only [Yd.nBr, List.length_cons]; omega
theorem own_put {w : World} {base g cap n size : Nat} {E : TypeId} {xs : List Value} (h : w.ownsRow base E size (.slice (some ⟨g, 0, none⟩) n cap) n xs) (j : Nat) (hj : j < n * size) (u : Value) :
  w.frozen? ⟨g, j, none⟩ = false ∧ (w.setCell ⟨g, j, none⟩ u).ownsRow base E size (.slice (some ⟨g, 0, none⟩) n cap) n (xs.set j u) := by
 obtain ⟨h1, h2⟩ := h
 rcases h2 with ⟨e, h0⟩ | ⟨g', cap', cur, e, hg, hh, hn, hm, hs, ht⟩
 ·cases e
 ·injection e with e1 e2 e3
  injection e1 with e1
  injection e1 with e1
  subst e1 e3
  have hlt := lt_of_block hh
  have h' : w.heap[g] = .cells cur E (0, 0) := by simpa [Array.getElem?_eq_getElem hlt] using hh
  refine ⟨by simp [World.frozen?, hh], by simpa using h1, Or.inr ⟨g, cap, cur.setIfInBounds j u, rfl, hg, ?_, hn, hm, by simpa using hs, ?_⟩⟩
  ·show (w.heap.modify g _)[g]? = _
   rw [Array.getElem?_eq_getElem (by simpa using hlt), Array.getElem_modify_self, h']
   rfl
  ·rw [Array.toList_setIfInBounds, ← ht, List.take_set]
theorem set6 (ys : List Value) (z0 z1 z2 z3 z4 z5 a0 a1 a2 a3 a4 a5 : Value) : ((((((ys ++ [z0, z1, z2, z3, z4, z5]).set ys.length a0).set (ys.length + 1) a1).set (ys.length + 2) a2).set (ys.length + 3) a3).set (ys.length + 4) a4).set (ys.length + 5) a5 = ys ++ [a0, a1, a2, a3, a4, a5] := by
 simp [List.set_append]
theorem set_comm (w : World) {a b : Addr} (h : a.block ≠ b.block) (u v : Value) : (w.setCell a u).setCell b v = (w.setCell b v).setCell a u := by
 unfold World.setCell
 congr 1
 apply Array.ext_getElem?
 intro i
 simp only [Array.getElem?_modify]
 by_cases h1 : a.block = i
 ·by_cases h2 : b.block = i
  ·exact absurd (h1.trans h2.symm) h
  ·simp [h1, h2]
 ·by_cases h2 : b.block = i
  ·simp [h1, h2]
  ·simp [h1, h2]
theorem own_fill {w : World} {base g cap M : Nat} {E : TypeId} {ys : List Value} {z0 z1 z2 z3 z4 z5 : Value} (hy : ys.length = M * 6) (h : w.ownsRow base E 6 (.slice (some ⟨g, 0, none⟩) (M + 1) cap) (M + 1) (ys ++ [z0, z1, z2, z3, z4, z5])) (a0 a1 a2 a3 a4 a5 : Value) :
  ((((((w.setCell ⟨g, M * 6, none⟩ a0).setCell ⟨g, M * 6 + 1, none⟩ a1).setCell ⟨g, M * 6 + 2, none⟩ a2).setCell ⟨g, M * 6 + 3, none⟩ a3).setCell ⟨g, M * 6 + 4, none⟩ a4).setCell ⟨g, M * 6 + 5, none⟩ a5).ownsRow base E 6 (.slice (some ⟨g, 0, none⟩) (M + 1) cap) (M + 1) (ys ++ [a0, a1, a2, a3, a4, a5]) := by
 have h0 := (own_put h (M * 6) (by omega) a0).2
 have h1 := (own_put h0 (M * 6 + 1) (by omega) a1).2
 have h2 := (own_put h1 (M * 6 + 2) (by omega) a2).2
 have h3 := (own_put h2 (M * 6 + 3) (by omega) a3).2
 have h4 := (own_put h3 (M * 6 + 4) (by omega) a4).2
 have h5 := (own_put h4 (M * 6 + 5) (by omega) a5).2
 rw [← hy] at h5 ⊢
 rwa [set6] at h5
theorem YS.pushVal {w w6 w8 : World} {l : Str} {RES : Yd.Res Ex} {p n p' : Nat} {o o' : Bool} {ops : List Yd.Op} {vals : List Ex} {ov vv v7 : Value} {xs : List Value} (h : YS w w6 (w.heap.size + 1 + 1 + 1) (w.heap.size + 1 + 1) l RES p n o ops vals ov vv xs) (x : Ex) (hx : x.kids = [])
  (k1 : w8.ownsRow (w.heap.size + 1 + 1 + 1) 52 6 v7 (vals.length + 1) (xs ++ [.int .i64 x.kind, .string ⟨x.name.toArray⟩, .int .i64 x.vs, .int .i64 x.vn, .string ⟨x.vt.toArray⟩, .slice none 0 0])) (hsz : w6.heap.size ≤ w8.heap.size) (hsm : ∀ k, k < w6.heap.size → some k ≠ vv.ownBlock → w8.heap[k]? = w6.heap[k]?) (hbl : v7.ownBlock = vv.ownBlock ∨ ∃ m, v7.ownBlock = some m ∧ w6.heap.size ≤ m) (k4 : Below (w.heap.size + 1 + 1 + 1) w6 w8)
  (run : xYR l ops (x :: vals) n o' p' RES) (bi : Yd.nBi ops + (if o' then 0 else 1) = (x :: vals).length) (hp : p < p') (pl : p' ≤ l.length) :
  YS w (w8.setCell ⟨w.heap.size + 1 + 1, 1, none⟩ v7) (w.heap.size + 1 + 1 + 1) (w.heap.size + 1 + 1) l RES p' n o' ops (x :: vals) ov v7 (xs ++ [.int .i64 x.kind, .string ⟨x.name.toArray⟩, .int .i64 x.vs, .int .i64 x.vn, .string ⟨x.vt.toArray⟩, .slice none 0 0]) := by
 have hc : ∀ (b j : Nat) (v : Value), b < w.heap.size + 1 + 1 → w6.cell? ⟨b, j, none⟩ = some v → (w8.setCell ⟨w.heap.size + 1 + 1, 1, none⟩ v7).cell? ⟨b, j, none⟩ = some v := fun b j v hb hv => (World.cell?_setCell_far _ _ _ _ (by show ¬ w.heap.size + 1 + 1 = b; omega)).trans ((k4.cell (p := ⟨b, j, none⟩) (by show b < _; omega)).trans hv)
 refine ⟨run, bi, h.br, h.ok, by have := h.sz; simp only [List.length_cons]; omega, pl, ?_, (h.xb.keep k4 (by omega)).far (by show ¬ w.heap.size + 1 + 1 = w.heap.size; omega) _, hc _ _ _ (by omega) h.f0, hc _ _ _ (by omega) h.f1, fun j => ?_, ?_⟩
 ·rw [List.reverse_cons]
  have hsD : Same (yD (w.heap.size + 1 + 1 + 1) ov vv) w6 w8 := fun k hk hl => hsm k hl hk.2.2
  have hDD : ∀ k, yD (w.heap.size + 1 + 1 + 1) ov vv k → k < w6.heap.size → yD (w.heap.size + 1 + 1 + 1) ov v7 k := fun k hk hl => ⟨hk.1, hk.2.1, fun e => by
   rcases hbl with h | ⟨m, h, hn⟩
   ·exact hk.2.2 (e.trans h)
   ·rw [h] at e; have := Option.some.inj e; omega⟩
  refine h.yd.setVals (w' := w8) v7 _ _ (by rw [List.length_append, List.length_reverse]; exact k1) (ExCells.append (h.yd.cells.keep hsD hDD) (.cons x (.slice none 0 0) [] [] (by rw [hx]; exact no_exs _ _) .nil)) hsz hsm
 ·rw [World.frozen?_setCell]
  exact (k4.frozen (p := ⟨w.heap.size + 1, j, none⟩) (by show w.heap.size + 1 < _; omega)).trans (h.fz j)
 ·exact (h.bl.trans (k4.mono (by omega))).setCell (by show w.heap.size ≤ w.heap.size + 1 + 1; omega) _
end Go.Proofs.YtpidjanngbaiiaaGreatDoor
