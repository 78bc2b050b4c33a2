/-
  Parse, the program's and the reference's.
  Texts of types: the reference's TypeText answers 'txt'.
-/
import Derived.Test.YtpidjanngbaiiaaGreatDoorM15
import Derived.Test.YtpidjanngbaiiaaGreatDoorM4
import Derived.Test.YtpidjanngbaiiaaGreatDoorM5
namespace Go.Proofs.YtpidjanngbaiiaaGreatDoor
open Go.RowKit Go.Proofs

set_option maxRecDepth 100000
set_option maxHeartbeats 1000000 in
theorem Parse_any (l : Str) (w : World) (hS : Sorts w) (hl : l.length ≤ 9223372036854775807) :
  Calls Tryz.prog 71 #[.string ⟨l.toArray⟩] w fun e w' => Below w.heap.size w w' ∧ ∃ v, e = .returned (.tuple #[v, .agg #[.int .i64 (rdParse l).2.1, .int .i64 (rdParse l).2.2]]) ∧ TyD (fun k => w.heap.size ≤ k) w' v (rdParse l).1 := by
 obtain ⟨TT, CC, AA, hA⟩ : ∃ t c a, rdParse l = (t, c, a) := ⟨_, _, _, rfl⟩
 rw [hA]
 simp only
 have HA := Lib.hid hA; clear hA
 have hcall := fun w hS => Begin_any l 0 0 (by omega) (by simp; omega) w hS hl
 obtain ⟨t, n, c, a, hB⟩ : ∃ t n c a, rdBegin l 0 = (t, n, c, a) := ⟨_, _, _, _, rfl⟩
 rw [hB] at hcall
 simp only at hcall
 have HP : Hid ((if c = 0 ∧ n < l.length then (zeroTy, 3, n) else (t, c, a)) = (TT, CC, AA)) := Lib.hid (by rw [← HA.out, rdParse, hB])
 have hn : n ≤ l.length := by
  have := congrArg (fun x => x.2.1) hB
  simp only at this
  rw [← this]
  unfold rdBegin
  split
  ·simp
  ·have htook := rdOne_took (l := l) (l.length + 1) 0 (by omega)
   split
   ·simp
   ·rename_i hr
    rw [hr] at htook
    split
    ·exact (sk_le htook.2).2
    ·simp
 clear HA hB
 go_enter Tryz.func71, Tryz.ntmps71
 go_wp2_with fail
 obtain ⟨W, hW⟩ : ∃ x, (w.alloc (.cells #[.int .i64 0, .int .i64 0, .string ⟨#[]⟩, .slice none 0 0, .slice none 0 0] 30)).alloc (.cells #[.int .i64 0, .int .i64 0] 37) = x := ⟨_, rfl⟩
 have hbW : Below w.heap.size w W := by subst hW; go_grown
 have XB : VBox W w.heap.size zeroTy (.slice none 0 0) (.slice none 0 0) := by subst hW; exact ⟨by simp [go_sem]; rfl, by simp [go_sem]; rfl, by simp [go_sem]; rfl, by simp [go_sem], by simp [go_sem], fun j => by simp [go_sem], by simp; omega⟩
 have f0 : W.cell? ⟨w.heap.size + 1, 0, none⟩ = some (.int .i64 0) := by subst hW; simp [go_sem]
 have f1 : W.cell? ⟨w.heap.size + 1, 1, none⟩ = some (.int .i64 0) := by subst hW; simp [go_sem]
 have fz : ∀ j, W.frozen? ⟨w.heap.size + 1, j, none⟩ = false := by subst hW; intro j; simp [go_sem]
 rw [hW]
 clear hW
 refine (hcall W (hS.keep hbW)).mono ?_; clear hcall
 rintro e w1 ⟨hb1, v, rfl, hT⟩
 have XB1 := XB.keep hb1 XB.lt
 have f01 := cell_keep f0 hb1
 have f11 := cell_keep f1 hb1
 have fz10 := (hb1.frozen (p := ⟨w.heap.size + 1, 0, none⟩) (cell_lt f0)).trans (fz 0)
 have fz11 := (hb1.frozen (p := ⟨w.heap.size + 1, 1, none⟩) (cell_lt f0)).trans (fz 1)
 have hbw1 := chain hbW hb1
 have hFW := cell_lt f0
 have hFW1 := hb1.size
 clear XB f0 f1 fz hbW hb1
 obtain ⟨lv, kv, rfl, k1, k2⟩ := hT
 have K1 := Lib.hid (k1.keep (D' := fun k => w.heap.size + 1 < k) (fun _ _ _ => rfl) (fun k hk _ => by have : W.heap.size ≤ k := hk; omega))
 have K2 := Lib.hid (k2.keep (D' := fun k => w.heap.size + 1 < k) (fun _ _ _ => rfl) (fun k hk _ => by have : W.heap.size ≤ k := hk; omega))
 obtain ⟨A1, c1, rfl, -, -⟩ := k1
 obtain ⟨A2, c2, rfl, -, -⟩ := k2
 have hFW2 : w.heap.size + 1 < w1.heap.size := by omega
 clear hFW hFW1
 clear W
 have hs1 : w.heap.size < w1.heap.size := XB1.lt
 rename_i Kx hkx Ky hky
 have HKX := Lib.hid hkx
 clear hkx
 go_wp2_with fail
 have hb2 : Below w1.heap.size w1 ((w1.alloc (.cells #[.int .i64 t.kind, .int .i64 t.sort, .string ⟨t.name.toArray⟩, .slice A1 t.labels.length c1, .slice A2 t.kids.length c2] 30)).alloc (.cells #[.int .i64 c, .int .i64 (a : Int)] 37)) := ((Below.refl _ _).alloc (Nat.le_refl _) _).alloc (by simp) _
 have XB2 := XB1.keep hb2 XB1.lt
 have f02 := cell_keep f01 hb2
 have f12 := cell_keep f11 hb2
 have fz20 := (hb2.frozen (p := ⟨w.heap.size + 1, 0, none⟩) (cell_lt f01)).trans fz10
 have fz21 := (hb2.frozen (p := ⟨w.heap.size + 1, 1, none⟩) (cell_lt f01)).trans fz11
 have hbw2 := chain hbw1 hb2
 have TB2 : VBox ((w1.alloc (.cells #[.int .i64 t.kind, .int .i64 t.sort, .string ⟨t.name.toArray⟩, .slice A1 t.labels.length c1, .slice A2 t.kids.length c2] 30)).alloc (.cells #[.int .i64 c, .int .i64 (a : Int)] 37)) w1.heap.size t (.slice A1 t.labels.length c1) (.slice A2 t.kids.length c2) := ⟨by simp [go_sem], by simp [go_sem], by simp [go_sem], by simp [go_sem], by simp [go_sem], fun j => by simp [go_sem], by simp; omega⟩
 have g0 : (((w1.alloc (.cells #[.int .i64 t.kind, .int .i64 t.sort, .string ⟨t.name.toArray⟩, .slice A1 t.labels.length c1, .slice A2 t.kids.length c2] 30)).alloc (.cells #[.int .i64 c, .int .i64 (a : Int)] 37))).cell? ⟨w1.heap.size + 1, 0, none⟩ = some (.int .i64 c) := by simp [go_sem]
 have g1 : (((w1.alloc (.cells #[.int .i64 t.kind, .int .i64 t.sort, .string ⟨t.name.toArray⟩, .slice A1 t.labels.length c1, .slice A2 t.kids.length c2] 30)).alloc (.cells #[.int .i64 c, .int .i64 (a : Int)] 37))).cell? ⟨w1.heap.size + 1, 1, none⟩ = some (.int .i64 (a : Int)) := by simp [go_sem]
 replace K1 := Lib.hid (K1.out.keep (D' := fun k => w.heap.size + 1 < k) (Same.below hb2) (fun _ h _ => h))
 replace K2 := Lib.hid (K2.out.keep (D' := fun k => w.heap.size + 1 < k) (Same.below hb2) (fun _ h _ => h))
 generalize ((w1.alloc (.cells #[.int .i64 t.kind, .int .i64 t.sort, .string ⟨t.name.toArray⟩, .slice A1 t.labels.length c1, .slice A2 t.kids.length c2] 30)).alloc (.cells #[.int .i64 c, .int .i64 (a : Int)] 37)) = w2 at XB2 f02 f12 fz20 fz21 hbw2 TB2 g0 g1 K1 K2 ⊢
 clear hb2 XB1 f01 f11 fz10 fz11 hbw1
 generalize w1.heap.size = T at TB2 g0 g1 hFW2 hs1 ⊢
 clear w1
 refine HKX.out _ _ ?_
 clear HKX
 have hd1 : ¬ w.heap.size = T := by omega
 have hd2 : ¬ w.heap.size = T + 1 := by omega
 have hd3 : ¬ w.heap.size + 1 = T := by omega
 have hd4 : ¬ w.heap.size + 1 = T + 1 := by omega
 obtain ⟨x0, x1, x2, x3, x4, x5, x6⟩ := id XB2
 obtain ⟨t0, t1, t2, t3, t4, t5, t6⟩ := id TB2
 by_cases hcn : c = 0 ∧ n < l.length
 ·obtain ⟨hc, hnl⟩ := hcn
  have hq := HP.out
  rw [if_pos ⟨hc, hnl⟩] at hq
  simp only [Prod.mk.injEq] at hq
  obtain ⟨rfl, rfl, rfl⟩ := hq
  have hnl' : (n : Int) < (l.length : Int) := by omega
  have hcb : (c == 0) = true := by simp [hc]
  clear hc HP
  go_wp2_with fail
  obtain ⟨TB9, f09, f19, hbl, hsm⟩ := laid2_facts w.heap.size (w.heap.size + 1) w2 XB2 f02 f12 (by omega) (by omega) zeroTy (.slice none 0 0) (.slice none 0 0) 3 (n : Int)
  have hbN := hbl _ _ hbw2 (Nat.le_refl _) (by omega)
  simp only [zeroTy, Ty.kind, Ty.sort, Ty.name] at TB9 f09 f19 hbN
  generalize (((((((w2.setCell ⟨w.heap.size, 0, none⟩ (.int .i64 0)).setCell ⟨w.heap.size, 1, none⟩ (.int .i64 0)).setCell ⟨w.heap.size, 2, none⟩ (.string ⟨([] : Str).toArray⟩)).setCell ⟨w.heap.size, 3, none⟩ (.slice none 0 0)).setCell ⟨w.heap.size, 4, none⟩ (.slice none 0 0)).setCell ⟨w.heap.size + 1, 0, none⟩ (.int .i64 3)).setCell ⟨w.heap.size + 1, 1, none⟩ (.int .i64 (n : Int))) = w9 at TB9 f09 f19 hbN ⊢
  obtain ⟨y0, y1, y2, y3, y4, y5, y6⟩ := id TB9
  simp only [Ty.kind, Ty.sort, Ty.name] at y0 y1 y2
  refine bodyPost_ret (v := .tuple #[.agg #[.int .i64 0, .int .i64 0, .string ⟨#[]⟩, .slice none 0 0, .slice none 0 0], .agg #[.int .i64 3, .int .i64 (n : Int)]]) (by simp [results, Tryz.results71, go_sem, y0, y1, y2, y3, y4, f09, f19]) rfl ?_
  exact ⟨hbN, _, rfl, ⟨_, _, rfl, no_strs _ _, no_tys _ _⟩⟩
 ·have hq := HP.out
  rw [if_neg hcn] at hq
  simp only [Prod.mk.injEq] at hq
  obtain ⟨rfl, rfl, rfl⟩ := hq
  by_cases hc : c = 0
  ·have hcb : (c == 0) = true := by simp [hc]
   have hnl' : ¬ (n : Int) < (l.length : Int) := by intro h; exact hcn ⟨hc, by omega⟩
   clear hcn HP hc
   go_wp2_with fail
   go_region
   go_wp2_with fail
   obtain ⟨TB9, f09, f19, hbl, hsm⟩ := laid2_facts w.heap.size (w.heap.size + 1) w2 XB2 f02 f12 (by omega) (by omega) t (.slice A1 t.labels.length c1) (.slice A2 t.kids.length c2) c (a : Int)
   have hbN := (hbl _ _ hbw2 (Nat.le_refl _) (by omega)).drew
   have K3 := K1.out.keep (D' := fun k => w.heap.size ≤ k) (fun k hk hl => hsm k (by have : w.heap.size + 1 < k := hk; omega) hl) (fun k hk _ => by have : w.heap.size + 1 < k := hk; omega)
   have K4 := K2.out.keep (D' := fun k => w.heap.size ≤ k) (fun k hk hl => hsm k (by have : w.heap.size + 1 < k := hk; omega) hl) (fun k hk _ => by have : w.heap.size + 1 < k := hk; omega)
   generalize (((((((w2.setCell ⟨w.heap.size, 0, none⟩ (.int .i64 t.kind)).setCell ⟨w.heap.size, 1, none⟩ (.int .i64 t.sort)).setCell ⟨w.heap.size, 2, none⟩ (.string ⟨t.name.toArray⟩)).setCell ⟨w.heap.size, 3, none⟩ (.slice A1 t.labels.length c1)).setCell ⟨w.heap.size, 4, none⟩ (.slice A2 t.kids.length c2)).setCell ⟨w.heap.size + 1, 0, none⟩ (.int .i64 c)).setCell ⟨w.heap.size + 1, 1, none⟩ (.int .i64 (a : Int))) = w9 at TB9 f09 f19 hbN K3 K4 ⊢
   have TB10 : VBox w9.drew w.heap.size t (.slice A1 t.labels.length c1) (.slice A2 t.kids.length c2) := ⟨TB9.c0, TB9.c1, TB9.c2, TB9.c3, TB9.c4, TB9.fr, TB9.lt⟩
   have f10 : w9.drew.cell? ⟨w.heap.size + 1, 0, none⟩ = some (.int .i64 c) := f09
   have f11 : w9.drew.cell? ⟨w.heap.size + 1, 1, none⟩ = some (.int .i64 (a : Int)) := f19
   have K5 := K3.keep (D' := fun k => w.heap.size ≤ k) (w' := w9.drew) (fun _ _ _ => rfl) (fun _ h _ => h)
   have K6 := K4.keep (D' := fun k => w.heap.size ≤ k) (w' := w9.drew) (fun _ _ _ => rfl) (fun _ h _ => h)
   generalize w9.drew = w11 at TB10 f10 f11 hbN K5 K6 ⊢
   obtain ⟨y0, y1, y2, y3, y4, y5, y6⟩ := id TB10
   refine bodyPost_ret (v := .tuple #[.agg #[.int .i64 t.kind, .int .i64 t.sort, .string ⟨t.name.toArray⟩, (.slice A1 t.labels.length c1), (.slice A2 t.kids.length c2)], .agg #[.int .i64 c, .int .i64 (a : Int)]]) (by simp [results, Tryz.results71, go_sem, y0, y1, y2, y3, y4, f10, f11]) rfl ?_
   exact ⟨hbN, _, rfl, ⟨_, _, rfl, K5, K6⟩⟩
  ·have hcb : (c == 0) = false := by simpa using hc
   clear hcn HP
   go_wp2_with fail
   go_region
   go_wp2_with fail
   obtain ⟨TB9, f09, f19, hbl, hsm⟩ := laid2_facts w.heap.size (w.heap.size + 1) w2 XB2 f02 f12 (by omega) (by omega) t (.slice A1 t.labels.length c1) (.slice A2 t.kids.length c2) c (a : Int)
   have hbN := (hbl _ _ hbw2 (Nat.le_refl _) (by omega)).drew
   have K3 := K1.out.keep (D' := fun k => w.heap.size ≤ k) (fun k hk hl => hsm k (by have : w.heap.size + 1 < k := hk; omega) hl) (fun k hk _ => by have : w.heap.size + 1 < k := hk; omega)
   have K4 := K2.out.keep (D' := fun k => w.heap.size ≤ k) (fun k hk hl => hsm k (by have : w.heap.size + 1 < k := hk; omega) hl) (fun k hk _ => by have : w.heap.size + 1 < k := hk; omega)
   generalize (((((((w2.setCell ⟨w.heap.size, 0, none⟩ (.int .i64 t.kind)).setCell ⟨w.heap.size, 1, none⟩ (.int .i64 t.sort)).setCell ⟨w.heap.size, 2, none⟩ (.string ⟨t.name.toArray⟩)).setCell ⟨w.heap.size, 3, none⟩ (.slice A1 t.labels.length c1)).setCell ⟨w.heap.size, 4, none⟩ (.slice A2 t.kids.length c2)).setCell ⟨w.heap.size + 1, 0, none⟩ (.int .i64 c)).setCell ⟨w.heap.size + 1, 1, none⟩ (.int .i64 (a : Int))) = w9 at TB9 f09 f19 hbN K3 K4 ⊢
   have TB10 : VBox w9.drew w.heap.size t (.slice A1 t.labels.length c1) (.slice A2 t.kids.length c2) := ⟨TB9.c0, TB9.c1, TB9.c2, TB9.c3, TB9.c4, TB9.fr, TB9.lt⟩
   have f10 : w9.drew.cell? ⟨w.heap.size + 1, 0, none⟩ = some (.int .i64 c) := f09
   have f11 : w9.drew.cell? ⟨w.heap.size + 1, 1, none⟩ = some (.int .i64 (a : Int)) := f19
   have K5 := K3.keep (D' := fun k => w.heap.size ≤ k) (w' := w9.drew) (fun _ _ _ => rfl) (fun _ h _ => h)
   have K6 := K4.keep (D' := fun k => w.heap.size ≤ k) (w' := w9.drew) (fun _ _ _ => rfl) (fun _ h _ => h)
   generalize w9.drew = w11 at TB10 f10 f11 hbN K5 K6 ⊢
   obtain ⟨y0, y1, y2, y3, y4, y5, y6⟩ := id TB10
   refine bodyPost_ret (v := .tuple #[.agg #[.int .i64 t.kind, .int .i64 t.sort, .string ⟨t.name.toArray⟩, (.slice A1 t.labels.length c1), (.slice A2 t.kids.length c2)], .agg #[.int .i64 c, .int .i64 (a : Int)]]) (by simp [results, Tryz.results71, go_sem, y0, y1, y2, y3, y4, f10, f11]) rfl ?_
   exact ⟨hbN, _, rfl, ⟨_, _, rfl, K5, K6⟩⟩
set_option maxHeartbeats 1000000 in
theorem ParseType_any (l : Str) (w : World) (hl : l.length ≤ 9223372036854775807) :
  Calls Tryz.prog 37 #[.string ⟨l.toArray⟩] w fun e w' => Below w.heap.size w w' ∧ ∃ v, e = .returned (.tuple #[v, .agg #[.int .i64 (rdParse l).2.1, .int .i64 (rdParse l).2.2]]) ∧ TyD (fun k => w.heap.size ≤ k) w' v (rdParse l).1 := by
 obtain ⟨TT, CC, AA, hA⟩ : ∃ t c a, rdParse l = (t, c, a) := ⟨_, _, _, rfl⟩
 rw [hA]
 simp only
 have HA := Lib.hid hA; clear hA
 have hcall := fun w => BeginType_any l 0 0 (by omega) (by simp; omega) w hl
 obtain ⟨t, n, c, a, hB⟩ : ∃ t n c a, rdBegin l 0 = (t, n, c, a) := ⟨_, _, _, _, rfl⟩
 rw [hB] at hcall
 simp only at hcall
 have HP : Hid ((if c = 0 ∧ n < l.length then (zeroTy, 3, n) else (t, c, a)) = (TT, CC, AA)) := Lib.hid (by rw [← HA.out, rdParse, hB])
 have hn : n ≤ l.length := by
  have := congrArg (fun x => x.2.1) hB
  simp only at this
  rw [← this]
  unfold rdBegin
  split
  ·simp
  ·have htook := rdOne_took (l := l) (l.length + 1) 0 (by omega)
   split
   ·simp
   ·rename_i hr
    rw [hr] at htook
    split
    ·exact (sk_le htook.2).2
    ·simp
 clear HA hB
 go_enter Tryz.func37, Tryz.ntmps37
 go_wp2_with fail
 obtain ⟨W, hW⟩ : ∃ x, (w.alloc (.cells #[.int .i64 0, .int .i64 0, .string ⟨#[]⟩, .slice none 0 0, .slice none 0 0] 30)).alloc (.cells #[.int .i64 0, .int .i64 0] 37) = x := ⟨_, rfl⟩
 have hbW : Below w.heap.size w W := by subst hW; go_grown
 have XB : VBox W w.heap.size zeroTy (.slice none 0 0) (.slice none 0 0) := by subst hW; exact ⟨by simp [go_sem]; rfl, by simp [go_sem]; rfl, by simp [go_sem]; rfl, by simp [go_sem], by simp [go_sem], fun j => by simp [go_sem], by simp; omega⟩
 have f0 : W.cell? ⟨w.heap.size + 1, 0, none⟩ = some (.int .i64 0) := by subst hW; simp [go_sem]
 have f1 : W.cell? ⟨w.heap.size + 1, 1, none⟩ = some (.int .i64 0) := by subst hW; simp [go_sem]
 have fz : ∀ j, W.frozen? ⟨w.heap.size + 1, j, none⟩ = false := by subst hW; intro j; simp [go_sem]
 rw [hW]
 clear hW
 refine (hcall W).mono ?_; clear hcall
 rintro e w1 ⟨hb1, v, rfl, hT⟩
 have XB1 := XB.keep hb1 XB.lt
 have f01 := cell_keep f0 hb1
 have f11 := cell_keep f1 hb1
 have fz10 := (hb1.frozen (p := ⟨w.heap.size + 1, 0, none⟩) (cell_lt f0)).trans (fz 0)
 have fz11 := (hb1.frozen (p := ⟨w.heap.size + 1, 1, none⟩) (cell_lt f0)).trans (fz 1)
 have hbw1 := chain hbW hb1
 have hFW := cell_lt f0
 have hFW1 := hb1.size
 clear XB f0 f1 fz hbW hb1
 obtain ⟨lv, kv, rfl, k1, k2⟩ := hT
 have K1 := Lib.hid (k1.keep (D' := fun k => w.heap.size + 1 < k) (fun _ _ _ => rfl) (fun k hk _ => by have : W.heap.size ≤ k := hk; omega))
 have K2 := Lib.hid (k2.keep (D' := fun k => w.heap.size + 1 < k) (fun _ _ _ => rfl) (fun k hk _ => by have : W.heap.size ≤ k := hk; omega))
 obtain ⟨A1, c1, rfl, -, -⟩ := k1
 obtain ⟨A2, c2, rfl, -, -⟩ := k2
 have hFW2 : w.heap.size + 1 < w1.heap.size := by omega
 clear hFW hFW1
 clear W
 have hs1 : w.heap.size < w1.heap.size := XB1.lt
 rename_i Kx hkx Ky hky
 have HKX := Lib.hid hkx
 clear hkx
 go_wp2_with fail
 have hb2 : Below w1.heap.size w1 ((w1.alloc (.cells #[.int .i64 t.kind, .int .i64 t.sort, .string ⟨t.name.toArray⟩, .slice A1 t.labels.length c1, .slice A2 t.kids.length c2] 30)).alloc (.cells #[.int .i64 c, .int .i64 (a : Int)] 37)) := ((Below.refl _ _).alloc (Nat.le_refl _) _).alloc (by simp) _
 have XB2 := XB1.keep hb2 XB1.lt
 have f02 := cell_keep f01 hb2
 have f12 := cell_keep f11 hb2
 have fz20 := (hb2.frozen (p := ⟨w.heap.size + 1, 0, none⟩) (cell_lt f01)).trans fz10
 have fz21 := (hb2.frozen (p := ⟨w.heap.size + 1, 1, none⟩) (cell_lt f01)).trans fz11
 have hbw2 := chain hbw1 hb2
 have TB2 : VBox ((w1.alloc (.cells #[.int .i64 t.kind, .int .i64 t.sort, .string ⟨t.name.toArray⟩, .slice A1 t.labels.length c1, .slice A2 t.kids.length c2] 30)).alloc (.cells #[.int .i64 c, .int .i64 (a : Int)] 37)) w1.heap.size t (.slice A1 t.labels.length c1) (.slice A2 t.kids.length c2) := ⟨by simp [go_sem], by simp [go_sem], by simp [go_sem], by simp [go_sem], by simp [go_sem], fun j => by simp [go_sem], by simp; omega⟩
 have g0 : (((w1.alloc (.cells #[.int .i64 t.kind, .int .i64 t.sort, .string ⟨t.name.toArray⟩, .slice A1 t.labels.length c1, .slice A2 t.kids.length c2] 30)).alloc (.cells #[.int .i64 c, .int .i64 (a : Int)] 37))).cell? ⟨w1.heap.size + 1, 0, none⟩ = some (.int .i64 c) := by simp [go_sem]
 have g1 : (((w1.alloc (.cells #[.int .i64 t.kind, .int .i64 t.sort, .string ⟨t.name.toArray⟩, .slice A1 t.labels.length c1, .slice A2 t.kids.length c2] 30)).alloc (.cells #[.int .i64 c, .int .i64 (a : Int)] 37))).cell? ⟨w1.heap.size + 1, 1, none⟩ = some (.int .i64 (a : Int)) := by simp [go_sem]
 replace K1 := Lib.hid (K1.out.keep (D' := fun k => w.heap.size + 1 < k) (Same.below hb2) (fun _ h _ => h))
 replace K2 := Lib.hid (K2.out.keep (D' := fun k => w.heap.size + 1 < k) (Same.below hb2) (fun _ h _ => h))
 generalize ((w1.alloc (.cells #[.int .i64 t.kind, .int .i64 t.sort, .string ⟨t.name.toArray⟩, .slice A1 t.labels.length c1, .slice A2 t.kids.length c2] 30)).alloc (.cells #[.int .i64 c, .int .i64 (a : Int)] 37)) = w2 at XB2 f02 f12 fz20 fz21 hbw2 TB2 g0 g1 K1 K2 ⊢
 clear hb2 XB1 f01 f11 fz10 fz11 hbw1
 generalize w1.heap.size = T at TB2 g0 g1 hFW2 hs1 ⊢
 clear w1
 refine HKX.out _ _ ?_
 clear HKX
 have hd1 : ¬ w.heap.size = T := by omega
 have hd2 : ¬ w.heap.size = T + 1 := by omega
 have hd3 : ¬ w.heap.size + 1 = T := by omega
 have hd4 : ¬ w.heap.size + 1 = T + 1 := by omega
 obtain ⟨x0, x1, x2, x3, x4, x5, x6⟩ := id XB2
 obtain ⟨t0, t1, t2, t3, t4, t5, t6⟩ := id TB2
 by_cases hcn : c = 0 ∧ n < l.length
 ·obtain ⟨hc, hnl⟩ := hcn
  have hq := HP.out
  rw [if_pos ⟨hc, hnl⟩] at hq
  simp only [Prod.mk.injEq] at hq
  obtain ⟨rfl, rfl, rfl⟩ := hq
  have hnl' : (n : Int) < (l.length : Int) := by omega
  have hcb : (c == 0) = true := by simp [hc]
  clear hc HP
  go_wp2_with fail
  obtain ⟨TB9, f09, f19, hbl, hsm⟩ := laid2_facts w.heap.size (w.heap.size + 1) w2 XB2 f02 f12 (by omega) (by omega) zeroTy (.slice none 0 0) (.slice none 0 0) 3 (n : Int)
  have hbN := hbl _ _ hbw2 (Nat.le_refl _) (by omega)
  simp only [zeroTy, Ty.kind, Ty.sort, Ty.name] at TB9 f09 f19 hbN
  generalize (((((((w2.setCell ⟨w.heap.size, 0, none⟩ (.int .i64 0)).setCell ⟨w.heap.size, 1, none⟩ (.int .i64 0)).setCell ⟨w.heap.size, 2, none⟩ (.string ⟨([] : Str).toArray⟩)).setCell ⟨w.heap.size, 3, none⟩ (.slice none 0 0)).setCell ⟨w.heap.size, 4, none⟩ (.slice none 0 0)).setCell ⟨w.heap.size + 1, 0, none⟩ (.int .i64 3)).setCell ⟨w.heap.size + 1, 1, none⟩ (.int .i64 (n : Int))) = w9 at TB9 f09 f19 hbN ⊢
  obtain ⟨y0, y1, y2, y3, y4, y5, y6⟩ := id TB9
  simp only [Ty.kind, Ty.sort, Ty.name] at y0 y1 y2
  refine bodyPost_ret (v := .tuple #[.agg #[.int .i64 0, .int .i64 0, .string ⟨#[]⟩, .slice none 0 0, .slice none 0 0], .agg #[.int .i64 3, .int .i64 (n : Int)]]) (by simp [results, Tryz.results37, go_sem, y0, y1, y2, y3, y4, f09, f19]) rfl ?_
  exact ⟨hbN, _, rfl, ⟨_, _, rfl, no_strs _ _, no_tys _ _⟩⟩
 ·have hq := HP.out
  rw [if_neg hcn] at hq
  simp only [Prod.mk.injEq] at hq
  obtain ⟨rfl, rfl, rfl⟩ := hq
  by_cases hc : c = 0
  ·have hcb : (c == 0) = true := by simp [hc]
   have hnl' : ¬ (n : Int) < (l.length : Int) := by intro h; exact hcn ⟨hc, by omega⟩
   clear hcn HP hc
   go_wp2_with fail
   go_region
   go_wp2_with fail
   obtain ⟨TB9, f09, f19, hbl, hsm⟩ := laid2_facts w.heap.size (w.heap.size + 1) w2 XB2 f02 f12 (by omega) (by omega) t (.slice A1 t.labels.length c1) (.slice A2 t.kids.length c2) c (a : Int)
   have hbN := (hbl _ _ hbw2 (Nat.le_refl _) (by omega)).drew
   have K3 := K1.out.keep (D' := fun k => w.heap.size ≤ k) (fun k hk hl => hsm k (by have : w.heap.size + 1 < k := hk; omega) hl) (fun k hk _ => by have : w.heap.size + 1 < k := hk; omega)
   have K4 := K2.out.keep (D' := fun k => w.heap.size ≤ k) (fun k hk hl => hsm k (by have : w.heap.size + 1 < k := hk; omega) hl) (fun k hk _ => by have : w.heap.size + 1 < k := hk; omega)
   generalize (((((((w2.setCell ⟨w.heap.size, 0, none⟩ (.int .i64 t.kind)).setCell ⟨w.heap.size, 1, none⟩ (.int .i64 t.sort)).setCell ⟨w.heap.size, 2, none⟩ (.string ⟨t.name.toArray⟩)).setCell ⟨w.heap.size, 3, none⟩ (.slice A1 t.labels.length c1)).setCell ⟨w.heap.size, 4, none⟩ (.slice A2 t.kids.length c2)).setCell ⟨w.heap.size + 1, 0, none⟩ (.int .i64 c)).setCell ⟨w.heap.size + 1, 1, none⟩ (.int .i64 (a : Int))) = w9 at TB9 f09 f19 hbN K3 K4 ⊢
   have TB10 : VBox w9.drew w.heap.size t (.slice A1 t.labels.length c1) (.slice A2 t.kids.length c2) := ⟨TB9.c0, TB9.c1, TB9.c2, TB9.c3, TB9.c4, TB9.fr, TB9.lt⟩
   have f10 : w9.drew.cell? ⟨w.heap.size + 1, 0, none⟩ = some (.int .i64 c) := f09
   have f11 : w9.drew.cell? ⟨w.heap.size + 1, 1, none⟩ = some (.int .i64 (a : Int)) := f19
   have K5 := K3.keep (D' := fun k => w.heap.size ≤ k) (w' := w9.drew) (fun _ _ _ => rfl) (fun _ h _ => h)
   have K6 := K4.keep (D' := fun k => w.heap.size ≤ k) (w' := w9.drew) (fun _ _ _ => rfl) (fun _ h _ => h)
   generalize w9.drew = w11 at TB10 f10 f11 hbN K5 K6 ⊢
   obtain ⟨y0, y1, y2, y3, y4, y5, y6⟩ := id TB10
   refine bodyPost_ret (v := .tuple #[.agg #[.int .i64 t.kind, .int .i64 t.sort, .string ⟨t.name.toArray⟩, (.slice A1 t.labels.length c1), (.slice A2 t.kids.length c2)], .agg #[.int .i64 c, .int .i64 (a : Int)]]) (by simp [results, Tryz.results37, go_sem, y0, y1, y2, y3, y4, f10, f11]) rfl ?_
   exact ⟨hbN, _, rfl, ⟨_, _, rfl, K5, K6⟩⟩
  ·have hcb : (c == 0) = false := by simpa using hc
   clear hcn HP
   go_wp2_with fail
   go_region
   go_wp2_with fail
   obtain ⟨TB9, f09, f19, hbl, hsm⟩ := laid2_facts w.heap.size (w.heap.size + 1) w2 XB2 f02 f12 (by omega) (by omega) t (.slice A1 t.labels.length c1) (.slice A2 t.kids.length c2) c (a : Int)
   have hbN := (hbl _ _ hbw2 (Nat.le_refl _) (by omega)).drew
   have K3 := K1.out.keep (D' := fun k => w.heap.size ≤ k) (fun k hk hl => hsm k (by have : w.heap.size + 1 < k := hk; omega) hl) (fun k hk _ => by have : w.heap.size + 1 < k := hk; omega)
   have K4 := K2.out.keep (D' := fun k => w.heap.size ≤ k) (fun k hk hl => hsm k (by have : w.heap.size + 1 < k := hk; omega) hl) (fun k hk _ => by have : w.heap.size + 1 < k := hk; omega)
   generalize (((((((w2.setCell ⟨w.heap.size, 0, none⟩ (.int .i64 t.kind)).setCell ⟨w.heap.size, 1, none⟩ (.int .i64 t.sort)).setCell ⟨w.heap.size, 2, none⟩ (.string ⟨t.name.toArray⟩)).setCell ⟨w.heap.size, 3, none⟩ (.slice A1 t.labels.length c1)).setCell ⟨w.heap.size, 4, none⟩ (.slice A2 t.kids.length c2)).setCell ⟨w.heap.size + 1, 0, none⟩ (.int .i64 c)).setCell ⟨w.heap.size + 1, 1, none⟩ (.int .i64 (a : Int))) = w9 at TB9 f09 f19 hbN K3 K4 ⊢
   have TB10 : VBox w9.drew w.heap.size t (.slice A1 t.labels.length c1) (.slice A2 t.kids.length c2) := ⟨TB9.c0, TB9.c1, TB9.c2, TB9.c3, TB9.c4, TB9.fr, TB9.lt⟩
   have f10 : w9.drew.cell? ⟨w.heap.size + 1, 0, none⟩ = some (.int .i64 c) := f09
   have f11 : w9.drew.cell? ⟨w.heap.size + 1, 1, none⟩ = some (.int .i64 (a : Int)) := f19
   have K5 := K3.keep (D' := fun k => w.heap.size ≤ k) (w' := w9.drew) (fun _ _ _ => rfl) (fun _ h _ => h)
   have K6 := K4.keep (D' := fun k => w.heap.size ≤ k) (w' := w9.drew) (fun _ _ _ => rfl) (fun _ h _ => h)
   generalize w9.drew = w11 at TB10 f10 f11 hbN K5 K6 ⊢
   obtain ⟨y0, y1, y2, y3, y4, y5, y6⟩ := id TB10
   refine bodyPost_ret (v := .tuple #[.agg #[.int .i64 t.kind, .int .i64 t.sort, .string ⟨t.name.toArray⟩, (.slice A1 t.labels.length c1), (.slice A2 t.kids.length c2)], .agg #[.int .i64 c, .int .i64 (a : Int)]]) (by simp [results, Tryz.results37, go_sem, y0, y1, y2, y3, y4, f10, f11]) rfl ?_
   exact ⟨hbN, _, rfl, ⟨_, _, rfl, K5, K6⟩⟩
set_option maxRecDepth 100000
theorem app_list (a b : List UInt8) : (⟨a.toArray⟩ : ByteArray) ++ ⟨b.toArray⟩ = ⟨(a ++ b).toArray⟩ := by
 rw [str_data ((⟨a.toArray⟩ : ByteArray) ++ ⟨b.toArray⟩)]
 simp [ByteArray.data_append]
attribute [go_sem] app_list

theorem sortWord_any (s : Int) (h1 : 1 ≤ s) (h3 : s ≤ 3) (w : World) :
  Calls Tryz.prog 45 #[.int .i64 s] w fun e w' => e = .returned (.string ⟨(sortWord s).toArray⟩) ∧ Below w.heap.size w w' := by
 obtain rfl | rfl | rfl : s = 1 ∨ s = 2 ∨ s = 3 := by omega
 all_goals
  go_enter Tryz.func45, Tryz.ntmps45
  go_wp2_with fail
  go_ret
  exact ⟨rfl, by go_grown⟩

def TextSays (f : FuncId) (t : Ty) (v : Value) (w : World) : Prop := Calls Tryz.prog f #[v] w fun e w' => e = .returned (.string ⟨(txt t).toArray⟩) ∧ Below w.heap.size w w'


set_option maxHeartbeats 4000000 in
theorem text_2 (m : Nat) (ih : ∀ (t : Ty) (v : Value) (w : World), parts t ≤ m → parts t ≤ 60 → IsTy w v t → Good t → TextSays 28 t v w)
  (s : Int) (c : Ty) (v : Value) (w : World) (hm : parts c ≤ m) (h60 : parts c ≤ 60) (hv : IsTy w v (.mk 2 s [] [] [c])) (hg : Good c) (h1 : 1 ≤ s) (h3 : s ≤ 3) : TextSays 28 (.mk 2 s [] [] [c]) v w := by
 unfold TextSays
 obtain ⟨lv, kv, rfl, hs1, hs2⟩ := hv
 simp only [Ty.kind, Ty.sort, Ty.name, Ty.labels, Ty.kids] at hs1 hs2 ⊢
 obtain ⟨A0, p0, rfl, -, -⟩ := hs1
 have HK := Lib.hid hs2
 obtain ⟨A, cap, rfl, -, -⟩ := hs2
 simp only [List.length_nil, List.length_singleton] at HK ⊢
 obtain ⟨-, -, b, off, A1, n1, p1, A2, n2, p2, rfl, c0, c1, c2, c3, c4, hl', hk'⟩ := kid_at (i := 0) (t := c) HK.out rfl
 simp only [Nat.zero_mul, Nat.add_zero] at c0 c1 c2 c3 c4
 have HL' := Lib.hid hl'; have HK' := Lib.hid hk'; clear hl' hk'
 obtain ⟨ANS, hA⟩ : ∃ x, txt (.mk 2 s [] [] [c]) = x := ⟨_, rfl⟩
 have HA := Lib.hid hA; rw [hA]; clear hA
 have hlc : (txt c).length ≤ 6000 := by have := txt_len c hg; omega
 have hlw := sortWord_len s
 obtain ⟨T, hT⟩ : ∃ y, txt c = y := ⟨_, rfl⟩
 have HT := Lib.hid hT
 rw [hT] at hlc
 obtain ⟨U, hU⟩ : ∃ y, sortWord s = y := ⟨_, rfl⟩
 have HU := Lib.hid hU
 rw [hU] at hlw
 clear hT hU
 go_enter Tryz.func28, Tryz.ntmps28
 go_wp2_with fail
 obtain ⟨W, hW⟩ : ∃ W, w.alloc (.cells #[.int .i64 2, .int .i64 s, .string ⟨#[]⟩, .slice A0 0 p0, .slice (some ⟨b, off, none⟩) 1 cap] 30) = W := ⟨_, rfl⟩
 have hbW : Below w.heap.size w W := by subst hW; go_grown
 have x1 : W.cell? ⟨w.heap.size, 1, none⟩ = some (.int .i64 s) := by subst hW; simp [go_sem]
 have x4 : W.cell? ⟨w.heap.size, 4, none⟩ = some (.slice (some ⟨b, off, none⟩) 1 cap) := by subst hW; simp [go_sem]
 try rw [hW]
 clear hW
 have d0 := cell_keep c0 hbW; have d1 := cell_keep c1 hbW; have d2 := cell_keep c2 hbW; have d3 := cell_keep c3 hbW; have d4 := cell_keep c4 hbW
 have hS : ∀ w' : World, Below W.heap.size W w' → (fun w' : World => w'.cell? ⟨w.heap.size, 1, none⟩ = some (.int .i64 s) ∧ w'.cell? ⟨w.heap.size, 4, none⟩ = some (.slice (some ⟨b, off, none⟩) 1 cap) ∧ w'.cell? ⟨b, off, none⟩ = some (.int .i64 c.kind) ∧ w'.cell? ⟨b, off + 1, none⟩ = some (.int .i64 c.sort) ∧ w'.cell? ⟨b, off + 2, none⟩ = some (.string ⟨c.name.toArray⟩) ∧ w'.cell? ⟨b, off + 3, none⟩ = some (.slice A1 n1 p1) ∧ w'.cell? ⟨b, off + 4, none⟩ = some (.slice A2 n2 p2)) w' := fun w' h => ⟨cell_keep x1 h, cell_keep x4 h, cell_keep d0 h, cell_keep d1 h, cell_keep d2 h, cell_keep d3 h, cell_keep d4 h⟩
 have HSd := Lib.hid (hS W.drew (Below.refl _ _).drew)
 have HSB := Lib.hid hS; clear hS
 refine wp_region_T 11 (fun w' : World => w'.cell? ⟨w.heap.size, 1, none⟩ = some (.int .i64 s) ∧ w'.cell? ⟨w.heap.size, 4, none⟩ = some (.slice (some ⟨b, off, none⟩) 1 cap) ∧ w'.cell? ⟨b, off, none⟩ = some (.int .i64 c.kind) ∧ w'.cell? ⟨b, off + 1, none⟩ = some (.int .i64 c.sort) ∧ w'.cell? ⟨b, off + 2, none⟩ = some (.string ⟨c.name.toArray⟩) ∧ w'.cell? ⟨b, off + 3, none⟩ = some (.slice A1 n1 p1) ∧ w'.cell? ⟨b, off + 4, none⟩ = some (.slice A2 n2 p2)) (by kernel_rfl) ?_
 refine zT 0 ?_ rfl (Or.inl ⟨by rfl, ?_⟩) HSd.out ?_
 rotate_left
 ·(intro wq hSw; obtain ⟨_,_,_,_,_,_,_⟩ := hSw; go_simp; all_goals (first | (with_reducible rfl) | (rw [zI])))
 simp only [zA, zB, zC, Act.put, zD, zE, zF]
 refine zT 1 ?_ rfl (Or.inl ⟨by rfl, ?_⟩) HSd.out ?_
 rotate_left
 ·(intro wq hSw; obtain ⟨_,_,_,_,_,_,_⟩ := hSw; go_simp; all_goals (first | (with_reducible rfl) | (rw [zI])))
 simp only [zA, zB, zC, Act.put, zD, zE, zF]
 refine zT 5 ?_ rfl (Or.inl ⟨by rfl, ?_⟩) HSd.out ?_
 rotate_left
 ·(intro wq hSw; obtain ⟨_,_,_,_,_,_,_⟩ := hSw; go_simp; all_goals (first | (with_reducible rfl) | (rw [zI])))
 simp only [zA, zB, zC, Act.put, zD, zE, zF]
 refine zT 6 ?_ rfl (Or.inl ⟨by rfl, ?_⟩) HSd.out ?_
 rotate_left
 ·(intro wq hSw; obtain ⟨_,_,_,_,_,_,_⟩ := hSw; go_simp; all_goals (first | (with_reducible rfl) | (rw [zI])))
 simp only [zA, zB, zC, Act.put, zD, zE, zF]
 refine zT 7 ?_ rfl (Or.inl ⟨by rfl, ?_⟩) HSd.out ?_
 rotate_left
 ·(intro wq hSw; obtain ⟨_,_,_,_,_,_,_⟩ := hSw; go_simp; all_goals (first | (with_reducible rfl) | (rw [zI])))
 simp only [zA, zB, zC, Act.put, zD, zE, zF]
 refine zT 8 ?_ rfl (Or.inl ⟨by rfl, ?_⟩) HSd.out ?_
 rotate_left
 ·(intro wq hSw; obtain ⟨_,_,_,_,_,_,_⟩ := hSw; go_simp; all_goals (first | (with_reducible rfl) | (rw [zI])))
 simp only [zA, zB, zC, Act.put, zD, zE, zF]
 refine zO 2 fun K hK => ?_
 go_simp
 refine (sortWord_any s h1 h3 _).mono ?_; rw [HU.out]; rintro e w1 ⟨rfl, hb1⟩
 have hb1' : Below W.heap.size W w1 := chain (Below.refl _ _).drew hb1
 refine hK.out _ _ (fun _ => HSB.out _ hb1') ?_
 clear hK K
 try simp only [zA, zB, zC, Act.put, zD, zE, zF]
 refine zT 3 ?_ rfl (Or.inl ⟨by rfl, ?_⟩) (HSB.out _ hb1') ?_
 rotate_left
 ·(intro wq hSw; obtain ⟨_,_,_,_,_,_,_⟩ := hSw; go_simp; all_goals (first | (with_reducible rfl) | (rw [zI])))
 simp only [zA, zB, zC, Act.put, zD, zE, zF]
 refine zT 4 ?_ rfl (Or.inl ⟨by rfl, ?_⟩) (HSB.out _ hb1') ?_
 rotate_left
 ·(intro wq hSw; obtain ⟨_,_,_,_,_,_,_⟩ := hSw; go_simp; all_goals (first | (with_reducible rfl) | (rw [zI])))
 simp only [zA, zB, zC, Act.put, zD, zE, zF]
 refine zO 9 fun K hK => ?_
 go_simp
 have hcall := ih c (.agg #[.int .i64 c.kind, .int .i64 c.sort, .string ⟨c.name.toArray⟩, .slice A1 n1 p1, .slice A2 n2 p2]) w1 hm h60 (isTy_of ((HL'.out.keep hbW).keep hb1') ((HK'.out.keep hbW).keep hb1')) hg
 unfold TextSays at hcall
 refine hcall.mono ?_; clear hcall; rw [HT.out]; rintro e w2 ⟨rfl, hb2⟩
 have hb2' := chain hb1' hb2
 refine hK.out _ _ (fun _ => HSB.out _ hb2') ?_
 clear hK K
 try simp only [zA, zB, zC, Act.put, zD, zE, zF]
 refine zT 10 ?_ rfl (Or.inl ⟨by rfl, ?_⟩) (HSB.out _ hb2') ?_
 rotate_left
 ·(intro wq hSw; obtain ⟨_,_,_,_,_,_,_⟩ := hSw; go_simp; all_goals (first | (with_reducible rfl) | (rw [zI])))
 simp only [zA, zB, zC, Act.put, zD, zE, zF]
 refine zO 11 fun K hK => ?_
 go_simp
 refine hK.out _ _ (fun h => absurd h (by decide)) ?_
 clear hK K
 try simp only [zA, zB, zC, Act.put, zD, zE, zF]
 refine wpT_done (by kernel_rfl) ?_
 go_wp2_with fail
 trace_state
 go_ret
 refine ⟨?_, chain hbW hb2'⟩
 rw [← HA.out]
 simp [txt, txtOf, txts, HT.out, HU.out]

set_option maxHeartbeats 4000000 in
theorem text_3 (m : Nat) (ih : ∀ (t : Ty) (v : Value) (w : World), parts t ≤ m → parts t ≤ 60 → IsTy w v t → Good t → TextSays 28 t v w)
  (s : Int) (c : Ty) (v : Value) (w : World) (hm : parts c ≤ m) (h60 : parts c ≤ 60) (hv : IsTy w v (.mk 3 s [] [] [c])) (hg : Good c) (h1 : 1 ≤ s) (h3 : s ≤ 3) : TextSays 28 (.mk 3 s [] [] [c]) v w := by
 unfold TextSays
 obtain ⟨lv, kv, rfl, hs1, hs2⟩ := hv
 simp only [Ty.kind, Ty.sort, Ty.name, Ty.labels, Ty.kids] at hs1 hs2 ⊢
 obtain ⟨A0, p0, rfl, -, -⟩ := hs1
 have HK := Lib.hid hs2
 obtain ⟨A, cap, rfl, -, -⟩ := hs2
 simp only [List.length_nil, List.length_singleton] at HK ⊢
 obtain ⟨-, -, b, off, A1, n1, p1, A2, n2, p2, rfl, c0, c1, c2, c3, c4, hl', hk'⟩ := kid_at (i := 0) (t := c) HK.out rfl
 simp only [Nat.zero_mul, Nat.add_zero] at c0 c1 c2 c3 c4
 have HL' := Lib.hid hl'; have HK' := Lib.hid hk'; clear hl' hk'
 obtain ⟨ANS, hA⟩ : ∃ x, txt (.mk 3 s [] [] [c]) = x := ⟨_, rfl⟩
 have HA := Lib.hid hA; rw [hA]; clear hA
 have hlc : (txt c).length ≤ 6000 := by have := txt_len c hg; omega
 have hlw := sortWord_len s
 obtain ⟨T, hT⟩ : ∃ y, txt c = y := ⟨_, rfl⟩
 have HT := Lib.hid hT
 rw [hT] at hlc
 obtain ⟨U, hU⟩ : ∃ y, sortWord s = y := ⟨_, rfl⟩
 have HU := Lib.hid hU
 rw [hU] at hlw
 clear hT hU
 go_enter Tryz.func28, Tryz.ntmps28
 go_wp2_with fail
 obtain ⟨W, hW⟩ : ∃ W, w.alloc (.cells #[.int .i64 3, .int .i64 s, .string ⟨#[]⟩, .slice A0 0 p0, .slice (some ⟨b, off, none⟩) 1 cap] 30) = W := ⟨_, rfl⟩
 have hbW : Below w.heap.size w W := by subst hW; go_grown
 have x1 : W.cell? ⟨w.heap.size, 1, none⟩ = some (.int .i64 s) := by subst hW; simp [go_sem]
 have x4 : W.cell? ⟨w.heap.size, 4, none⟩ = some (.slice (some ⟨b, off, none⟩) 1 cap) := by subst hW; simp [go_sem]
 try rw [hW]
 clear hW
 have d0 := cell_keep c0 hbW; have d1 := cell_keep c1 hbW; have d2 := cell_keep c2 hbW; have d3 := cell_keep c3 hbW; have d4 := cell_keep c4 hbW
 have hS : ∀ w' : World, Below W.heap.size W w' → (fun w' : World => w'.cell? ⟨w.heap.size, 1, none⟩ = some (.int .i64 s) ∧ w'.cell? ⟨w.heap.size, 4, none⟩ = some (.slice (some ⟨b, off, none⟩) 1 cap) ∧ w'.cell? ⟨b, off, none⟩ = some (.int .i64 c.kind) ∧ w'.cell? ⟨b, off + 1, none⟩ = some (.int .i64 c.sort) ∧ w'.cell? ⟨b, off + 2, none⟩ = some (.string ⟨c.name.toArray⟩) ∧ w'.cell? ⟨b, off + 3, none⟩ = some (.slice A1 n1 p1) ∧ w'.cell? ⟨b, off + 4, none⟩ = some (.slice A2 n2 p2)) w' := fun w' h => ⟨cell_keep x1 h, cell_keep x4 h, cell_keep d0 h, cell_keep d1 h, cell_keep d2 h, cell_keep d3 h, cell_keep d4 h⟩
 have HSd := Lib.hid (hS W.drew (Below.refl _ _).drew)
 have HSB := Lib.hid hS; clear hS
 refine wp_region_T 11 (fun w' : World => w'.cell? ⟨w.heap.size, 1, none⟩ = some (.int .i64 s) ∧ w'.cell? ⟨w.heap.size, 4, none⟩ = some (.slice (some ⟨b, off, none⟩) 1 cap) ∧ w'.cell? ⟨b, off, none⟩ = some (.int .i64 c.kind) ∧ w'.cell? ⟨b, off + 1, none⟩ = some (.int .i64 c.sort) ∧ w'.cell? ⟨b, off + 2, none⟩ = some (.string ⟨c.name.toArray⟩) ∧ w'.cell? ⟨b, off + 3, none⟩ = some (.slice A1 n1 p1) ∧ w'.cell? ⟨b, off + 4, none⟩ = some (.slice A2 n2 p2)) (by kernel_rfl) ?_
 refine zT 0 ?_ rfl (Or.inl ⟨by rfl, ?_⟩) HSd.out ?_
 rotate_left
 ·(intro wq hSw; obtain ⟨_,_,_,_,_,_,_⟩ := hSw; go_simp; all_goals (first | (with_reducible rfl) | (rw [zI])))
 simp only [zA, zB, zC, Act.put, zD, zE, zF]
 refine zT 1 ?_ rfl (Or.inl ⟨by rfl, ?_⟩) HSd.out ?_
 rotate_left
 ·(intro wq hSw; obtain ⟨_,_,_,_,_,_,_⟩ := hSw; go_simp; all_goals (first | (with_reducible rfl) | (rw [zI])))
 simp only [zA, zB, zC, Act.put, zD, zE, zF]
 refine zT 5 ?_ rfl (Or.inl ⟨by rfl, ?_⟩) HSd.out ?_
 rotate_left
 ·(intro wq hSw; obtain ⟨_,_,_,_,_,_,_⟩ := hSw; go_simp; all_goals (first | (with_reducible rfl) | (rw [zI])))
 simp only [zA, zB, zC, Act.put, zD, zE, zF]
 refine zT 6 ?_ rfl (Or.inl ⟨by rfl, ?_⟩) HSd.out ?_
 rotate_left
 ·(intro wq hSw; obtain ⟨_,_,_,_,_,_,_⟩ := hSw; go_simp; all_goals (first | (with_reducible rfl) | (rw [zI])))
 simp only [zA, zB, zC, Act.put, zD, zE, zF]
 refine zT 7 ?_ rfl (Or.inl ⟨by rfl, ?_⟩) HSd.out ?_
 rotate_left
 ·(intro wq hSw; obtain ⟨_,_,_,_,_,_,_⟩ := hSw; go_simp; all_goals (first | (with_reducible rfl) | (rw [zI])))
 simp only [zA, zB, zC, Act.put, zD, zE, zF]
 refine zT 8 ?_ rfl (Or.inl ⟨by rfl, ?_⟩) HSd.out ?_
 rotate_left
 ·(intro wq hSw; obtain ⟨_,_,_,_,_,_,_⟩ := hSw; go_simp; all_goals (first | (with_reducible rfl) | (rw [zI])))
 simp only [zA, zB, zC, Act.put, zD, zE, zF]
 refine zO 2 fun K hK => ?_
 go_simp
 refine (sortWord_any s h1 h3 _).mono ?_; rw [HU.out]; rintro e w1 ⟨rfl, hb1⟩
 have hb1' : Below W.heap.size W w1 := chain (Below.refl _ _).drew hb1
 refine hK.out _ _ (fun _ => HSB.out _ hb1') ?_
 clear hK K
 try simp only [zA, zB, zC, Act.put, zD, zE, zF]
 refine zT 3 ?_ rfl (Or.inl ⟨by rfl, ?_⟩) (HSB.out _ hb1') ?_
 rotate_left
 ·(intro wq hSw; obtain ⟨_,_,_,_,_,_,_⟩ := hSw; go_simp; all_goals (first | (with_reducible rfl) | (rw [zI])))
 simp only [zA, zB, zC, Act.put, zD, zE, zF]
 refine zT 4 ?_ rfl (Or.inl ⟨by rfl, ?_⟩) (HSB.out _ hb1') ?_
 rotate_left
 ·(intro wq hSw; obtain ⟨_,_,_,_,_,_,_⟩ := hSw; go_simp; all_goals (first | (with_reducible rfl) | (rw [zI])))
 simp only [zA, zB, zC, Act.put, zD, zE, zF]
 refine zO 9 fun K hK => ?_
 go_simp
 have hcall := ih c (.agg #[.int .i64 c.kind, .int .i64 c.sort, .string ⟨c.name.toArray⟩, .slice A1 n1 p1, .slice A2 n2 p2]) w1 hm h60 (isTy_of ((HL'.out.keep hbW).keep hb1') ((HK'.out.keep hbW).keep hb1')) hg
 unfold TextSays at hcall
 refine hcall.mono ?_; clear hcall; rw [HT.out]; rintro e w2 ⟨rfl, hb2⟩
 have hb2' := chain hb1' hb2
 refine hK.out _ _ (fun _ => HSB.out _ hb2') ?_
 clear hK K
 try simp only [zA, zB, zC, Act.put, zD, zE, zF]
 refine zT 10 ?_ rfl (Or.inl ⟨by rfl, ?_⟩) (HSB.out _ hb2') ?_
 rotate_left
 ·(intro wq hSw; obtain ⟨_,_,_,_,_,_,_⟩ := hSw; go_simp; all_goals (first | (with_reducible rfl) | (rw [zI])))
 simp only [zA, zB, zC, Act.put, zD, zE, zF]
 refine zO 11 fun K hK => ?_
 go_simp
 refine hK.out _ _ (fun h => absurd h (by decide)) ?_
 clear hK K
 try simp only [zA, zB, zC, Act.put, zD, zE, zF]
 refine wpT_done (by kernel_rfl) ?_
 go_wp2_with fail
 trace_state
 go_ret
 refine ⟨?_, chain hbW hb2'⟩
 rw [← HA.out]
 simp [txt, txtOf, txts, HT.out, HU.out]

set_option maxHeartbeats 4000000 in
theorem text_8 (m : Nat) (ih : ∀ (t : Ty) (v : Value) (w : World), parts t ≤ m → parts t ≤ 60 → IsTy w v t → Good t → TextSays 28 t v w)
  (n : Str) (c : Ty) (v : Value) (w : World) (hmc : parts c ≤ m) (h60c : parts c ≤ 60) (hgc : Good c) (hv : IsTy w v (.mk 8 0 n [] [c])) (hn : n.length ≤ 8) : TextSays 28 (.mk 8 0 n [] [c]) v w := by
 unfold TextSays
 obtain ⟨lv, kv, rfl, hs1, hs2⟩ := hv
 simp only [Ty.kind, Ty.sort, Ty.name, Ty.labels, Ty.kids] at hs1 hs2 ⊢
 obtain ⟨A0, p0, rfl, -, -⟩ := hs1
 have HK := Lib.hid hs2
 obtain ⟨A, cap, rfl, -, -⟩ := hs2
 simp only [List.length_nil, List.length_cons] at HK ⊢
 obtain ⟨-, -, b, off, cA, cn, cp, cB, cm, cq, rfl, c0, c1, c2, c3, c4, hl', hk'⟩ := kid_at (i := 0) (t := c) HK.out rfl
 simp only [Nat.zero_mul, Nat.one_mul, Nat.add_zero] at c0 c1 c2 c3 c4
 have HLc := Lib.hid hl'; have HKc := Lib.hid hk'; clear hl' hk'
 have hlc : (txt c).length ≤ 6000 := by have := txt_len c hgc; omega
 obtain ⟨Tc, hTc⟩ : ∃ y, txt c = y := ⟨_, rfl⟩
 have HTc := Lib.hid hTc
 rw [hTc] at hlc
 clear hTc
 obtain ⟨ANS, hA⟩ : ∃ x, txt (.mk 8 0 n [] [c]) = x := ⟨_, rfl⟩
 have HA := Lib.hid hA; rw [hA]; clear hA
 go_enter Tryz.func28, Tryz.ntmps28
 go_wp2_with fail
 obtain ⟨W, hW⟩ : ∃ W, w.alloc (.cells #[.int .i64 8, .int .i64 0, .string ⟨n.toArray⟩, .slice A0 0 p0, .slice (some ⟨b, off, none⟩) 1 cap] 30) = W := ⟨_, rfl⟩
 have hbW : Below w.heap.size w W := by subst hW; go_grown
 have x2 : W.cell? ⟨w.heap.size, 2, none⟩ = some (.string ⟨n.toArray⟩) := by subst hW; simp [go_sem]
 have x4 : W.cell? ⟨w.heap.size, 4, none⟩ = some (.slice (some ⟨b, off, none⟩) 1 cap) := by subst hW; simp [go_sem]
 try rw [hW]
 clear hW
 have ec0 := cell_keep c0 hbW; have ec1 := cell_keep c1 hbW; have ec2 := cell_keep c2 hbW; have ec3 := cell_keep c3 hbW; have ec4 := cell_keep c4 hbW
 have hS : ∀ w' : World, Below W.heap.size W w' → (fun w' : World => w'.cell? ⟨w.heap.size, 2, none⟩ = some (.string ⟨n.toArray⟩) ∧ w'.cell? ⟨w.heap.size, 4, none⟩ = some (.slice (some ⟨b, off, none⟩) 1 cap) ∧ w'.cell? ⟨b, off, none⟩ = some (.int .i64 c.kind) ∧ w'.cell? ⟨b, off + 1, none⟩ = some (.int .i64 c.sort) ∧ w'.cell? ⟨b, off + 2, none⟩ = some (.string ⟨c.name.toArray⟩) ∧ w'.cell? ⟨b, off + 3, none⟩ = some (.slice cA cn cp) ∧ w'.cell? ⟨b, off + 4, none⟩ = some (.slice cB cm cq)) w' := fun w' h => ⟨cell_keep x2 h, cell_keep x4 h, cell_keep ec0 h, cell_keep ec1 h, cell_keep ec2 h, cell_keep ec3 h, cell_keep ec4 h⟩
 have HSd := Lib.hid (hS W.drew (Below.refl _ _).drew)
 have HSB := Lib.hid hS; clear hS
 refine wp_region_T 10 (fun w' : World => w'.cell? ⟨w.heap.size, 2, none⟩ = some (.string ⟨n.toArray⟩) ∧ w'.cell? ⟨w.heap.size, 4, none⟩ = some (.slice (some ⟨b, off, none⟩) 1 cap) ∧ w'.cell? ⟨b, off, none⟩ = some (.int .i64 c.kind) ∧ w'.cell? ⟨b, off + 1, none⟩ = some (.int .i64 c.sort) ∧ w'.cell? ⟨b, off + 2, none⟩ = some (.string ⟨c.name.toArray⟩) ∧ w'.cell? ⟨b, off + 3, none⟩ = some (.slice cA cn cp) ∧ w'.cell? ⟨b, off + 4, none⟩ = some (.slice cB cm cq)) (by kernel_rfl) ?_
 refine zT 0 ?_ rfl (Or.inl ⟨by rfl, ?_⟩) HSd.out ?_
 rotate_left
 ·(intro wq hSw; obtain ⟨_,_,_,_,_,_,_⟩ := hSw; go_simp; all_goals (first | (with_reducible rfl) | (rw [zI])))
 simp only [zA, zB, zC, Act.put, zD, zE, zF]
 refine zT 1 ?_ rfl (Or.inl ⟨by rfl, ?_⟩) HSd.out ?_
 rotate_left
 ·(intro wq hSw; obtain ⟨_,_,_,_,_,_,_⟩ := hSw; go_simp; all_goals (first | (with_reducible rfl) | (rw [zI])))
 simp only [zA, zB, zC, Act.put, zD, zE, zF]
 refine zT 2 ?_ rfl (Or.inl ⟨by rfl, ?_⟩) HSd.out ?_
 rotate_left
 ·(intro wq hSw; obtain ⟨_,_,_,_,_,_,_⟩ := hSw; go_simp; all_goals (first | (with_reducible rfl) | (rw [zI])))
 simp only [zA, zB, zC, Act.put, zD, zE, zF]
 refine zT 3 ?_ rfl (Or.inl ⟨by rfl, ?_⟩) HSd.out ?_
 rotate_left
 ·(intro wq hSw; obtain ⟨_,_,_,_,_,_,_⟩ := hSw; go_simp; all_goals (first | (with_reducible rfl) | (rw [zI])))
 simp only [zA, zB, zC, Act.put, zD, zE, zF]
 refine zT 4 ?_ rfl (Or.inl ⟨by rfl, ?_⟩) HSd.out ?_
 rotate_left
 ·(intro wq hSw; obtain ⟨_,_,_,_,_,_,_⟩ := hSw; go_simp; all_goals (first | (with_reducible rfl) | (rw [zI])))
 simp only [zA, zB, zC, Act.put, zD, zE, zF]
 refine zT 5 ?_ rfl (Or.inl ⟨by rfl, ?_⟩) HSd.out ?_
 rotate_left
 ·(intro wq hSw; obtain ⟨_,_,_,_,_,_,_⟩ := hSw; go_simp; all_goals (first | (with_reducible rfl) | (rw [zI])))
 simp only [zA, zB, zC, Act.put, zD, zE, zF]
 refine zT 6 ?_ rfl (Or.inl ⟨by rfl, ?_⟩) HSd.out ?_
 rotate_left
 ·(intro wq hSw; obtain ⟨_,_,_,_,_,_,_⟩ := hSw; go_simp; all_goals (first | (with_reducible rfl) | (rw [zI])))
 simp only [zA, zB, zC, Act.put, zD, zE, zF]
 refine zT 7 ?_ rfl (Or.inl ⟨by rfl, ?_⟩) HSd.out ?_
 rotate_left
 ·(intro wq hSw; obtain ⟨_,_,_,_,_,_,_⟩ := hSw; go_simp; all_goals (first | (with_reducible rfl) | (rw [zI])))
 simp only [zA, zB, zC, Act.put, zD, zE, zF]
 refine zO 8 fun K hK => ?_
 go_simp
 have hcall := ih c (.agg #[.int .i64 c.kind, .int .i64 c.sort, .string ⟨c.name.toArray⟩, .slice cA cn cp, .slice cB cm cq]) W.drew hmc h60c (isTy_of ((HLc.out.keep hbW).keep (Below.refl W.heap.size W).drew) ((HKc.out.keep hbW).keep (Below.refl W.heap.size W).drew)) hgc
 unfold TextSays at hcall
 refine hcall.mono ?_; clear hcall; rw [HTc.out]; rintro e w1 ⟨rfl, hq⟩
 have hb1 := chain (Below.refl W.heap.size W).drew hq
 clear hq
 refine hK.out _ _ (fun _ => HSB.out _ hb1) ?_
 clear hK K
 try simp only [zA, zB, zC, Act.put, zD, zE, zF]
 refine zT 9 ?_ rfl (Or.inl ⟨by rfl, ?_⟩) (HSB.out _ hb1) ?_
 rotate_left
 ·(intro wq hSw; obtain ⟨_,_,_,_,_,_,_⟩ := hSw; go_simp; all_goals (first | (with_reducible rfl) | (rw [zI])))
 simp only [zA, zB, zC, Act.put, zD, zE, zF]
 refine zO 10 fun K hK => ?_
 go_simp
 refine hK.out _ _ (fun h => absurd h (by decide)) ?_
 clear hK K
 try simp only [zA, zB, zC, Act.put, zD, zE, zF]
 refine wpT_done (by kernel_rfl) ?_
 go_wp2_with fail
 go_ret
 refine ⟨?_, chain hbW hb1⟩
 rw [← HA.out]
 simp [txt, txtOf, txts, HTc.out]

set_option maxHeartbeats 4000000 in
theorem text_4 (m : Nat) (ih : ∀ (t : Ty) (v : Value) (w : World), parts t ≤ m → parts t ≤ 60 → IsTy w v t → Good t → TextSays 28 t v w)
  (c d : Ty) (v : Value) (w : World) (hmc : parts c ≤ m) (h60c : parts c ≤ 60) (hgc : Good c) (hmd : parts d ≤ m) (h60d : parts d ≤ 60) (hgd : Good d) (hv : IsTy w v (.mk 4 0 [] [] [c, d]))  : TextSays 28 (.mk 4 0 [] [] [c, d]) v w := by
 unfold TextSays
 obtain ⟨lv, kv, rfl, hs1, hs2⟩ := hv
 simp only [Ty.kind, Ty.sort, Ty.name, Ty.labels, Ty.kids] at hs1 hs2 ⊢
 obtain ⟨A0, p0, rfl, -, -⟩ := hs1
 have HK := Lib.hid hs2
 obtain ⟨A, cap, rfl, -, -⟩ := hs2
 simp only [List.length_nil, List.length_cons] at HK ⊢
 obtain ⟨-, -, b, off, cA, cn, cp, cB, cm, cq, rfl, c0, c1, c2, c3, c4, hl', hk'⟩ := kid_at (i := 0) (t := c) HK.out rfl
 simp only [Nat.zero_mul, Nat.one_mul, Nat.add_zero] at c0 c1 c2 c3 c4
 have HLc := Lib.hid hl'; have HKc := Lib.hid hk'; clear hl' hk'
 have hlc : (txt c).length ≤ 6000 := by have := txt_len c hgc; omega
 obtain ⟨Tc, hTc⟩ : ∃ y, txt c = y := ⟨_, rfl⟩
 have HTc := Lib.hid hTc
 rw [hTc] at hlc
 clear hTc
 obtain ⟨-, -, b2, off2, dA, dn, dp, dB, dm, dq, eA, d0, d1, d2, d3, d4, hl', hk'⟩ := kid_at (i := 1) (t := d) HK.out rfl
 cases eA
 simp only [Nat.zero_mul, Nat.one_mul, Nat.add_zero] at d0 d1 d2 d3 d4
 have HLd := Lib.hid hl'; have HKd := Lib.hid hk'; clear hl' hk'
 have hld : (txt d).length ≤ 6000 := by have := txt_len d hgd; omega
 obtain ⟨Td, hTd⟩ : ∃ y, txt d = y := ⟨_, rfl⟩
 have HTd := Lib.hid hTd
 rw [hTd] at hld
 clear hTd
 obtain ⟨ANS, hA⟩ : ∃ x, txt (.mk 4 0 [] [] [c, d]) = x := ⟨_, rfl⟩
 have HA := Lib.hid hA; rw [hA]; clear hA
 go_enter Tryz.func28, Tryz.ntmps28
 go_wp2_with fail
 obtain ⟨W, hW⟩ : ∃ W, w.alloc (.cells #[.int .i64 4, .int .i64 0, .string ⟨#[]⟩, .slice A0 0 p0, .slice (some ⟨b, off, none⟩) 2 cap] 30) = W := ⟨_, rfl⟩
 have hbW : Below w.heap.size w W := by subst hW; go_grown
 have x4 : W.cell? ⟨w.heap.size, 4, none⟩ = some (.slice (some ⟨b, off, none⟩) 2 cap) := by subst hW; simp [go_sem]
 try rw [hW]
 clear hW
 have ec0 := cell_keep c0 hbW; have ec1 := cell_keep c1 hbW; have ec2 := cell_keep c2 hbW; have ec3 := cell_keep c3 hbW; have ec4 := cell_keep c4 hbW
 have ed0 := cell_keep d0 hbW; have ed1 := cell_keep d1 hbW; have ed2 := cell_keep d2 hbW; have ed3 := cell_keep d3 hbW; have ed4 := cell_keep d4 hbW
 have hS : ∀ w' : World, Below W.heap.size W w' → (fun w' : World => w'.cell? ⟨w.heap.size, 4, none⟩ = some (.slice (some ⟨b, off, none⟩) 2 cap) ∧ w'.cell? ⟨b, off, none⟩ = some (.int .i64 c.kind) ∧ w'.cell? ⟨b, off + 1, none⟩ = some (.int .i64 c.sort) ∧ w'.cell? ⟨b, off + 2, none⟩ = some (.string ⟨c.name.toArray⟩) ∧ w'.cell? ⟨b, off + 3, none⟩ = some (.slice cA cn cp) ∧ w'.cell? ⟨b, off + 4, none⟩ = some (.slice cB cm cq) ∧ w'.cell? ⟨b, off + 5, none⟩ = some (.int .i64 d.kind) ∧ w'.cell? ⟨b, off + 5 + 1, none⟩ = some (.int .i64 d.sort) ∧ w'.cell? ⟨b, off + 5 + 2, none⟩ = some (.string ⟨d.name.toArray⟩) ∧ w'.cell? ⟨b, off + 5 + 3, none⟩ = some (.slice dA dn dp) ∧ w'.cell? ⟨b, off + 5 + 4, none⟩ = some (.slice dB dm dq)) w' := fun w' h => ⟨cell_keep x4 h, cell_keep ec0 h, cell_keep ec1 h, cell_keep ec2 h, cell_keep ec3 h, cell_keep ec4 h, cell_keep ed0 h, cell_keep ed1 h, cell_keep ed2 h, cell_keep ed3 h, cell_keep ed4 h⟩
 have HSd := Lib.hid (hS W.drew (Below.refl _ _).drew)
 have HSB := Lib.hid hS; clear hS
 refine wp_region_T 15 (fun w' : World => w'.cell? ⟨w.heap.size, 4, none⟩ = some (.slice (some ⟨b, off, none⟩) 2 cap) ∧ w'.cell? ⟨b, off, none⟩ = some (.int .i64 c.kind) ∧ w'.cell? ⟨b, off + 1, none⟩ = some (.int .i64 c.sort) ∧ w'.cell? ⟨b, off + 2, none⟩ = some (.string ⟨c.name.toArray⟩) ∧ w'.cell? ⟨b, off + 3, none⟩ = some (.slice cA cn cp) ∧ w'.cell? ⟨b, off + 4, none⟩ = some (.slice cB cm cq) ∧ w'.cell? ⟨b, off + 5, none⟩ = some (.int .i64 d.kind) ∧ w'.cell? ⟨b, off + 5 + 1, none⟩ = some (.int .i64 d.sort) ∧ w'.cell? ⟨b, off + 5 + 2, none⟩ = some (.string ⟨d.name.toArray⟩) ∧ w'.cell? ⟨b, off + 5 + 3, none⟩ = some (.slice dA dn dp) ∧ w'.cell? ⟨b, off + 5 + 4, none⟩ = some (.slice dB dm dq)) (by kernel_rfl) ?_
 refine zT 0 ?_ rfl (Or.inl ⟨by rfl, ?_⟩) HSd.out ?_
 rotate_left
 ·(intro wq hSw; obtain ⟨_,_,_,_,_,_,_,_,_,_,_⟩ := hSw; go_simp; all_goals (first | (with_reducible rfl) | (rw [zI])))
 simp only [zA, zB, zC, Act.put, zD, zE, zF]
 refine zT 1 ?_ rfl (Or.inl ⟨by rfl, ?_⟩) HSd.out ?_
 rotate_left
 ·(intro wq hSw; obtain ⟨_,_,_,_,_,_,_,_,_,_,_⟩ := hSw; go_simp; all_goals (first | (with_reducible rfl) | (rw [zI])))
 simp only [zA, zB, zC, Act.put, zD, zE, zF]
 refine zT 2 ?_ rfl (Or.inl ⟨by rfl, ?_⟩) HSd.out ?_
 rotate_left
 ·(intro wq hSw; obtain ⟨_,_,_,_,_,_,_,_,_,_,_⟩ := hSw; go_simp; all_goals (first | (with_reducible rfl) | (rw [zI])))
 simp only [zA, zB, zC, Act.put, zD, zE, zF]
 refine zT 3 ?_ rfl (Or.inl ⟨by rfl, ?_⟩) HSd.out ?_
 rotate_left
 ·(intro wq hSw; obtain ⟨_,_,_,_,_,_,_,_,_,_,_⟩ := hSw; go_simp; all_goals (first | (with_reducible rfl) | (rw [zI])))
 simp only [zA, zB, zC, Act.put, zD, zE, zF]
 refine zT 4 ?_ rfl (Or.inl ⟨by rfl, ?_⟩) HSd.out ?_
 rotate_left
 ·(intro wq hSw; obtain ⟨_,_,_,_,_,_,_,_,_,_,_⟩ := hSw; go_simp; all_goals (first | (with_reducible rfl) | (rw [zI])))
 simp only [zA, zB, zC, Act.put, zD, zE, zF]
 refine zT 5 ?_ rfl (Or.inl ⟨by rfl, ?_⟩) HSd.out ?_
 rotate_left
 ·(intro wq hSw; obtain ⟨_,_,_,_,_,_,_,_,_,_,_⟩ := hSw; go_simp; all_goals (first | (with_reducible rfl) | (rw [zI])))
 simp only [zA, zB, zC, Act.put, zD, zE, zF]
 refine zT 9 ?_ rfl (Or.inl ⟨by rfl, ?_⟩) HSd.out ?_
 rotate_left
 ·(intro wq hSw; obtain ⟨_,_,_,_,_,_,_,_,_,_,_⟩ := hSw; go_simp; all_goals (first | (with_reducible rfl) | (rw [zI])))
 simp only [zA, zB, zC, Act.put, zD, zE, zF]
 refine zT 10 ?_ rfl (Or.inl ⟨by rfl, ?_⟩) HSd.out ?_
 rotate_left
 ·(intro wq hSw; obtain ⟨_,_,_,_,_,_,_,_,_,_,_⟩ := hSw; go_simp; all_goals (first | (with_reducible rfl) | (rw [zI])))
 simp only [zA, zB, zC, Act.put, zD, zE, zF]
 refine zT 11 ?_ rfl (Or.inl ⟨by rfl, ?_⟩) HSd.out ?_
 rotate_left
 ·(intro wq hSw; obtain ⟨_,_,_,_,_,_,_,_,_,_,_⟩ := hSw; go_simp; all_goals (first | (with_reducible rfl) | (rw [zI])))
 simp only [zA, zB, zC, Act.put, zD, zE, zF]
 refine zT 12 ?_ rfl (Or.inl ⟨by rfl, ?_⟩) HSd.out ?_
 rotate_left
 ·(intro wq hSw; obtain ⟨_,_,_,_,_,_,_,_,_,_,_⟩ := hSw; go_simp; all_goals (first | (with_reducible rfl) | (rw [zI])))
 simp only [zA, zB, zC, Act.put, zD, zE, zF]
 refine zO 6 fun K hK => ?_
 go_simp
 have hcall := ih c (.agg #[.int .i64 c.kind, .int .i64 c.sort, .string ⟨c.name.toArray⟩, .slice cA cn cp, .slice cB cm cq]) W.drew hmc h60c (isTy_of ((HLc.out.keep hbW).keep (Below.refl W.heap.size W).drew) ((HKc.out.keep hbW).keep (Below.refl W.heap.size W).drew)) hgc
 unfold TextSays at hcall
 refine hcall.mono ?_; clear hcall; rw [HTc.out]; rintro e w1 ⟨rfl, hq⟩
 have hb1 := chain (Below.refl W.heap.size W).drew hq
 clear hq
 refine hK.out _ _ (fun _ => HSB.out _ hb1) ?_
 clear hK K
 try simp only [zA, zB, zC, Act.put, zD, zE, zF]
 refine zT 7 ?_ rfl (Or.inl ⟨by rfl, ?_⟩) (HSB.out _ hb1) ?_
 rotate_left
 ·(intro wq hSw; obtain ⟨_,_,_,_,_,_,_,_,_,_,_⟩ := hSw; go_simp; all_goals (first | (with_reducible rfl) | (rw [zI])))
 simp only [zA, zB, zC, Act.put, zD, zE, zF]
 refine zT 8 ?_ rfl (Or.inl ⟨by rfl, ?_⟩) (HSB.out _ hb1) ?_
 rotate_left
 ·(intro wq hSw; obtain ⟨_,_,_,_,_,_,_,_,_,_,_⟩ := hSw; go_simp; all_goals (first | (with_reducible rfl) | (rw [zI])))
 simp only [zA, zB, zC, Act.put, zD, zE, zF]
 refine zO 13 fun K hK => ?_
 go_simp
 have hcall := ih d (.agg #[.int .i64 d.kind, .int .i64 d.sort, .string ⟨d.name.toArray⟩, .slice dA dn dp, .slice dB dm dq]) w1 hmd h60d (isTy_of ((HLd.out.keep hbW).keep hb1) ((HKd.out.keep hbW).keep hb1)) hgd
 unfold TextSays at hcall
 refine hcall.mono ?_; clear hcall; rw [HTd.out]; rintro e w2 ⟨rfl, hq⟩
 have hb2 := chain hb1 hq
 clear hq
 refine hK.out _ _ (fun _ => HSB.out _ hb2) ?_
 clear hK K
 try simp only [zA, zB, zC, Act.put, zD, zE, zF]
 refine zT 14 ?_ rfl (Or.inl ⟨by rfl, ?_⟩) (HSB.out _ hb2) ?_
 rotate_left
 ·(intro wq hSw; obtain ⟨_,_,_,_,_,_,_,_,_,_,_⟩ := hSw; go_simp; all_goals (first | (with_reducible rfl) | (rw [zI])))
 simp only [zA, zB, zC, Act.put, zD, zE, zF]
 refine zO 15 fun K hK => ?_
 go_simp
 refine hK.out _ _ (fun h => absurd h (by decide)) ?_
 clear hK K
 try simp only [zA, zB, zC, Act.put, zD, zE, zF]
 refine wpT_done (by kernel_rfl) ?_
 go_wp2_with fail
 go_ret
 refine ⟨?_, chain hbW hb2⟩
 rw [← HA.out]
 simp [txt, txtOf, txts, HTc.out, HTd.out]

set_option maxHeartbeats 4000000 in
theorem text_5 (m : Nat) (ih : ∀ (t : Ty) (v : Value) (w : World), parts t ≤ m → parts t ≤ 60 → IsTy w v t → Good t → TextSays 28 t v w)
  (c d : Ty) (v : Value) (w : World) (hmc : parts c ≤ m) (h60c : parts c ≤ 60) (hgc : Good c) (hmd : parts d ≤ m) (h60d : parts d ≤ 60) (hgd : Good d) (hv : IsTy w v (.mk 5 0 [] [] [c, d]))  : TextSays 28 (.mk 5 0 [] [] [c, d]) v w := by
 unfold TextSays
 obtain ⟨lv, kv, rfl, hs1, hs2⟩ := hv
 simp only [Ty.kind, Ty.sort, Ty.name, Ty.labels, Ty.kids] at hs1 hs2 ⊢
 obtain ⟨A0, p0, rfl, -, -⟩ := hs1
 have HK := Lib.hid hs2
 obtain ⟨A, cap, rfl, -, -⟩ := hs2
 simp only [List.length_nil, List.length_cons] at HK ⊢
 obtain ⟨-, -, b, off, cA, cn, cp, cB, cm, cq, rfl, c0, c1, c2, c3, c4, hl', hk'⟩ := kid_at (i := 0) (t := c) HK.out rfl
 simp only [Nat.zero_mul, Nat.one_mul, Nat.add_zero] at c0 c1 c2 c3 c4
 have HLc := Lib.hid hl'; have HKc := Lib.hid hk'; clear hl' hk'
 have hlc : (txt c).length ≤ 6000 := by have := txt_len c hgc; omega
 obtain ⟨Tc, hTc⟩ : ∃ y, txt c = y := ⟨_, rfl⟩
 have HTc := Lib.hid hTc
 rw [hTc] at hlc
 clear hTc
 obtain ⟨-, -, b2, off2, dA, dn, dp, dB, dm, dq, eA, d0, d1, d2, d3, d4, hl', hk'⟩ := kid_at (i := 1) (t := d) HK.out rfl
 cases eA
 simp only [Nat.zero_mul, Nat.one_mul, Nat.add_zero] at d0 d1 d2 d3 d4
 have HLd := Lib.hid hl'; have HKd := Lib.hid hk'; clear hl' hk'
 have hld : (txt d).length ≤ 6000 := by have := txt_len d hgd; omega
 obtain ⟨Td, hTd⟩ : ∃ y, txt d = y := ⟨_, rfl⟩
 have HTd := Lib.hid hTd
 rw [hTd] at hld
 clear hTd
 obtain ⟨ANS, hA⟩ : ∃ x, txt (.mk 5 0 [] [] [c, d]) = x := ⟨_, rfl⟩
 have HA := Lib.hid hA; rw [hA]; clear hA
 go_enter Tryz.func28, Tryz.ntmps28
 go_wp2_with fail
 obtain ⟨W, hW⟩ : ∃ W, w.alloc (.cells #[.int .i64 5, .int .i64 0, .string ⟨#[]⟩, .slice A0 0 p0, .slice (some ⟨b, off, none⟩) 2 cap] 30) = W := ⟨_, rfl⟩
 have hbW : Below w.heap.size w W := by subst hW; go_grown
 have x4 : W.cell? ⟨w.heap.size, 4, none⟩ = some (.slice (some ⟨b, off, none⟩) 2 cap) := by subst hW; simp [go_sem]
 try rw [hW]
 clear hW
 have ec0 := cell_keep c0 hbW; have ec1 := cell_keep c1 hbW; have ec2 := cell_keep c2 hbW; have ec3 := cell_keep c3 hbW; have ec4 := cell_keep c4 hbW
 have ed0 := cell_keep d0 hbW; have ed1 := cell_keep d1 hbW; have ed2 := cell_keep d2 hbW; have ed3 := cell_keep d3 hbW; have ed4 := cell_keep d4 hbW
 have hS : ∀ w' : World, Below W.heap.size W w' → (fun w' : World => w'.cell? ⟨w.heap.size, 4, none⟩ = some (.slice (some ⟨b, off, none⟩) 2 cap) ∧ w'.cell? ⟨b, off, none⟩ = some (.int .i64 c.kind) ∧ w'.cell? ⟨b, off + 1, none⟩ = some (.int .i64 c.sort) ∧ w'.cell? ⟨b, off + 2, none⟩ = some (.string ⟨c.name.toArray⟩) ∧ w'.cell? ⟨b, off + 3, none⟩ = some (.slice cA cn cp) ∧ w'.cell? ⟨b, off + 4, none⟩ = some (.slice cB cm cq) ∧ w'.cell? ⟨b, off + 5, none⟩ = some (.int .i64 d.kind) ∧ w'.cell? ⟨b, off + 5 + 1, none⟩ = some (.int .i64 d.sort) ∧ w'.cell? ⟨b, off + 5 + 2, none⟩ = some (.string ⟨d.name.toArray⟩) ∧ w'.cell? ⟨b, off + 5 + 3, none⟩ = some (.slice dA dn dp) ∧ w'.cell? ⟨b, off + 5 + 4, none⟩ = some (.slice dB dm dq)) w' := fun w' h => ⟨cell_keep x4 h, cell_keep ec0 h, cell_keep ec1 h, cell_keep ec2 h, cell_keep ec3 h, cell_keep ec4 h, cell_keep ed0 h, cell_keep ed1 h, cell_keep ed2 h, cell_keep ed3 h, cell_keep ed4 h⟩
 have HSd := Lib.hid (hS W.drew (Below.refl _ _).drew)
 have HSB := Lib.hid hS; clear hS
 refine wp_region_T 15 (fun w' : World => w'.cell? ⟨w.heap.size, 4, none⟩ = some (.slice (some ⟨b, off, none⟩) 2 cap) ∧ w'.cell? ⟨b, off, none⟩ = some (.int .i64 c.kind) ∧ w'.cell? ⟨b, off + 1, none⟩ = some (.int .i64 c.sort) ∧ w'.cell? ⟨b, off + 2, none⟩ = some (.string ⟨c.name.toArray⟩) ∧ w'.cell? ⟨b, off + 3, none⟩ = some (.slice cA cn cp) ∧ w'.cell? ⟨b, off + 4, none⟩ = some (.slice cB cm cq) ∧ w'.cell? ⟨b, off + 5, none⟩ = some (.int .i64 d.kind) ∧ w'.cell? ⟨b, off + 5 + 1, none⟩ = some (.int .i64 d.sort) ∧ w'.cell? ⟨b, off + 5 + 2, none⟩ = some (.string ⟨d.name.toArray⟩) ∧ w'.cell? ⟨b, off + 5 + 3, none⟩ = some (.slice dA dn dp) ∧ w'.cell? ⟨b, off + 5 + 4, none⟩ = some (.slice dB dm dq)) (by kernel_rfl) ?_
 refine zT 0 ?_ rfl (Or.inl ⟨by rfl, ?_⟩) HSd.out ?_
 rotate_left
 ·(intro wq hSw; obtain ⟨_,_,_,_,_,_,_,_,_,_,_⟩ := hSw; go_simp; all_goals (first | (with_reducible rfl) | (rw [zI])))
 simp only [zA, zB, zC, Act.put, zD, zE, zF]
 refine zT 1 ?_ rfl (Or.inl ⟨by rfl, ?_⟩) HSd.out ?_
 rotate_left
 ·(intro wq hSw; obtain ⟨_,_,_,_,_,_,_,_,_,_,_⟩ := hSw; go_simp; all_goals (first | (with_reducible rfl) | (rw [zI])))
 simp only [zA, zB, zC, Act.put, zD, zE, zF]
 refine zT 2 ?_ rfl (Or.inl ⟨by rfl, ?_⟩) HSd.out ?_
 rotate_left
 ·(intro wq hSw; obtain ⟨_,_,_,_,_,_,_,_,_,_,_⟩ := hSw; go_simp; all_goals (first | (with_reducible rfl) | (rw [zI])))
 simp only [zA, zB, zC, Act.put, zD, zE, zF]
 refine zT 3 ?_ rfl (Or.inl ⟨by rfl, ?_⟩) HSd.out ?_
 rotate_left
 ·(intro wq hSw; obtain ⟨_,_,_,_,_,_,_,_,_,_,_⟩ := hSw; go_simp; all_goals (first | (with_reducible rfl) | (rw [zI])))
 simp only [zA, zB, zC, Act.put, zD, zE, zF]
 refine zT 4 ?_ rfl (Or.inl ⟨by rfl, ?_⟩) HSd.out ?_
 rotate_left
 ·(intro wq hSw; obtain ⟨_,_,_,_,_,_,_,_,_,_,_⟩ := hSw; go_simp; all_goals (first | (with_reducible rfl) | (rw [zI])))
 simp only [zA, zB, zC, Act.put, zD, zE, zF]
 refine zT 5 ?_ rfl (Or.inl ⟨by rfl, ?_⟩) HSd.out ?_
 rotate_left
 ·(intro wq hSw; obtain ⟨_,_,_,_,_,_,_,_,_,_,_⟩ := hSw; go_simp; all_goals (first | (with_reducible rfl) | (rw [zI])))
 simp only [zA, zB, zC, Act.put, zD, zE, zF]
 refine zT 9 ?_ rfl (Or.inl ⟨by rfl, ?_⟩) HSd.out ?_
 rotate_left
 ·(intro wq hSw; obtain ⟨_,_,_,_,_,_,_,_,_,_,_⟩ := hSw; go_simp; all_goals (first | (with_reducible rfl) | (rw [zI])))
 simp only [zA, zB, zC, Act.put, zD, zE, zF]
 refine zT 10 ?_ rfl (Or.inl ⟨by rfl, ?_⟩) HSd.out ?_
 rotate_left
 ·(intro wq hSw; obtain ⟨_,_,_,_,_,_,_,_,_,_,_⟩ := hSw; go_simp; all_goals (first | (with_reducible rfl) | (rw [zI])))
 simp only [zA, zB, zC, Act.put, zD, zE, zF]
 refine zT 11 ?_ rfl (Or.inl ⟨by rfl, ?_⟩) HSd.out ?_
 rotate_left
 ·(intro wq hSw; obtain ⟨_,_,_,_,_,_,_,_,_,_,_⟩ := hSw; go_simp; all_goals (first | (with_reducible rfl) | (rw [zI])))
 simp only [zA, zB, zC, Act.put, zD, zE, zF]
 refine zT 12 ?_ rfl (Or.inl ⟨by rfl, ?_⟩) HSd.out ?_
 rotate_left
 ·(intro wq hSw; obtain ⟨_,_,_,_,_,_,_,_,_,_,_⟩ := hSw; go_simp; all_goals (first | (with_reducible rfl) | (rw [zI])))
 simp only [zA, zB, zC, Act.put, zD, zE, zF]
 refine zO 6 fun K hK => ?_
 go_simp
 have hcall := ih c (.agg #[.int .i64 c.kind, .int .i64 c.sort, .string ⟨c.name.toArray⟩, .slice cA cn cp, .slice cB cm cq]) W.drew hmc h60c (isTy_of ((HLc.out.keep hbW).keep (Below.refl W.heap.size W).drew) ((HKc.out.keep hbW).keep (Below.refl W.heap.size W).drew)) hgc
 unfold TextSays at hcall
 refine hcall.mono ?_; clear hcall; rw [HTc.out]; rintro e w1 ⟨rfl, hq⟩
 have hb1 := chain (Below.refl W.heap.size W).drew hq
 clear hq
 refine hK.out _ _ (fun _ => HSB.out _ hb1) ?_
 clear hK K
 try simp only [zA, zB, zC, Act.put, zD, zE, zF]
 refine zT 7 ?_ rfl (Or.inl ⟨by rfl, ?_⟩) (HSB.out _ hb1) ?_
 rotate_left
 ·(intro wq hSw; obtain ⟨_,_,_,_,_,_,_,_,_,_,_⟩ := hSw; go_simp; all_goals (first | (with_reducible rfl) | (rw [zI])))
 simp only [zA, zB, zC, Act.put, zD, zE, zF]
 refine zT 8 ?_ rfl (Or.inl ⟨by rfl, ?_⟩) (HSB.out _ hb1) ?_
 rotate_left
 ·(intro wq hSw; obtain ⟨_,_,_,_,_,_,_,_,_,_,_⟩ := hSw; go_simp; all_goals (first | (with_reducible rfl) | (rw [zI])))
 simp only [zA, zB, zC, Act.put, zD, zE, zF]
 refine zO 13 fun K hK => ?_
 go_simp
 have hcall := ih d (.agg #[.int .i64 d.kind, .int .i64 d.sort, .string ⟨d.name.toArray⟩, .slice dA dn dp, .slice dB dm dq]) w1 hmd h60d (isTy_of ((HLd.out.keep hbW).keep hb1) ((HKd.out.keep hbW).keep hb1)) hgd
 unfold TextSays at hcall
 refine hcall.mono ?_; clear hcall; rw [HTd.out]; rintro e w2 ⟨rfl, hq⟩
 have hb2 := chain hb1 hq
 clear hq
 refine hK.out _ _ (fun _ => HSB.out _ hb2) ?_
 clear hK K
 try simp only [zA, zB, zC, Act.put, zD, zE, zF]
 refine zT 14 ?_ rfl (Or.inl ⟨by rfl, ?_⟩) (HSB.out _ hb2) ?_
 rotate_left
 ·(intro wq hSw; obtain ⟨_,_,_,_,_,_,_,_,_,_,_⟩ := hSw; go_simp; all_goals (first | (with_reducible rfl) | (rw [zI])))
 simp only [zA, zB, zC, Act.put, zD, zE, zF]
 refine zO 15 fun K hK => ?_
 go_simp
 refine hK.out _ _ (fun h => absurd h (by decide)) ?_
 clear hK K
 try simp only [zA, zB, zC, Act.put, zD, zE, zF]
 refine wpT_done (by kernel_rfl) ?_
 go_wp2_with fail
 go_ret
 refine ⟨?_, chain hbW hb2⟩
 rw [← HA.out]
 simp [txt, txtOf, txts, HTc.out, HTd.out]

set_option maxHeartbeats 4000000 in
theorem text_1 (m : Nat) (ih : ∀ (t : Ty) (v : Value) (w : World), parts t ≤ m → parts t ≤ 60 → IsTy w v t → Good t → TextSays 28 t v w)
     (v : Value) (w : World)  (hv : IsTy w v (.mk 1 0 [] [] []))  : TextSays 28 (.mk 1 0 [] [] []) v w := by
  unfold TextSays
  obtain ⟨lv, kv, rfl, hs1, hs2⟩ := hv
  simp only [Ty.kind, Ty.sort, Ty.name, Ty.labels, Ty.kids] at hs1 hs2 ⊢
  obtain ⟨A0, p0, rfl, -, -⟩ := hs1
  have HK := Lib.hid hs2
  obtain ⟨A, cap, rfl, -, -⟩ := hs2
  simp only [List.length_nil, List.length_cons] at HK ⊢
  obtain ⟨ANS, hA⟩ : ∃ x, txt (.mk 1 0 [] [] []) = x := ⟨_, rfl⟩
  have HA := Lib.hid hA; rw [hA]; clear hA
  go_enter Tryz.func28, Tryz.ntmps28
  go_wp2_with fail
  go_ret
  refine ⟨?_, by go_grown⟩
  rw [← HA.out]
  simp [txt, txtOf]

set_option maxHeartbeats 4000000 in
theorem text_9 (m : Nat) (ih : ∀ (t : Ty) (v : Value) (w : World), parts t ≤ m → parts t ≤ 60 → IsTy w v t → Good t → TextSays 28 t v w)
  (n : Str) (v : Value) (w : World)  (hv : IsTy w v (.mk 9 0 n [] []))  : TextSays 28 (.mk 9 0 n [] []) v w := by
 unfold TextSays
 obtain ⟨lv, kv, rfl, hs1, hs2⟩ := hv
 simp only [Ty.kind, Ty.sort, Ty.name, Ty.labels, Ty.kids] at hs1 hs2 ⊢
 obtain ⟨A0, p0, rfl, -, -⟩ := hs1
 have HK := Lib.hid hs2
 obtain ⟨A, cap, rfl, -, -⟩ := hs2
 simp only [List.length_nil, List.length_cons] at HK ⊢
 obtain ⟨ANS, hA⟩ : ∃ x, txt (.mk 9 0 n [] []) = x := ⟨_, rfl⟩
 have HA := Lib.hid hA; rw [hA]; clear hA
 go_enter Tryz.func28, Tryz.ntmps28
 go_wp2_with fail
 go_ret
 refine ⟨?_, by go_grown⟩
 rw [← HA.out]
 simp [txt, txtOf]
end Go.Proofs.YtpidjanngbaiiaaGreatDoor
