/-
  Parse, the program's and the reference's.
-/
import Derived.Test.YtcacembpegoghaaDoorRdR6
namespace Go.Proofs.YtcacembpegoghaaDoor
open Go.RowKit Go.Proofs

set_option maxRecDepth 100000
set_option maxHeartbeats 1000000 in
theorem Parse_any (l : Str) (w : World) (hS : Sorts w) (hl : l.length ≤ 9223372036854775807) :
    Calls Tryd.prog 29 #[.string ⟨l.toArray⟩] w fun e w' => Below w.heap.size w w' ∧ ∃ v, e = .returned (.tuple #[v, .agg #[.int .i64 (rdParse l).2.1, .int .i64 (rdParse l).2.2]]) ∧ TyD (fun k => w.heap.size ≤ k) w' v (rdParse l).1 := by
  obtain ⟨TT, CC, AA, hA⟩ : ∃ t c a, rdParse l = (t, c, a) := ⟨_, _, _, rfl⟩
  rw [hA]
  simp only
  have HA := Lib.hid hA; clear hA
  have hcall := fun w hS => Begin_any l 0 0 (by omega) (by simp; omega) w hS hl
  obtain ⟨t, n, c, a, hB⟩ : ∃ t n c a, rdBegin l 0 = (t, n, c, a) := ⟨_, _, _, _, rfl⟩
  rw [hB] at hcall
  simp only at hcall
  have HP : Hid ((if c = 0 ∧ n < l.length then (zeroTy, 3, n) else (t, c, a)) = (TT, CC, AA)) := Lib.hid (by rw [← HA.out, rdParse, hB])
  have hn : n ≤ l.length := by
    have := congrArg (fun x => x.2.1) hB
    simp only at this
    rw [← this]
    unfold rdBegin
    split
    · simp
    · have htook := rdOne_took (l := l) (l.length + 1) 0 (by omega)
      split
      · simp
      · rename_i hr
        rw [hr] at htook
        split
        · exact (sk_le htook.2).2
        · simp
  clear HA hB
  go_enter Tryd.func29, Tryd.ntmps29
  go_wp2_with fail
  obtain ⟨W, hW⟩ : ∃ x, (w.alloc (.cells #[.int .i64 0, .int .i64 0, .string ⟨#[]⟩, .slice none 0 0, .slice none 0 0] 51)).alloc (.cells #[.int .i64 0, .int .i64 0] 44) = x := ⟨_, rfl⟩
  have hbW : Below w.heap.size w W := by subst hW; go_grown
  have XB : VBox W w.heap.size zeroTy (.slice none 0 0) (.slice none 0 0) := by subst hW; exact ⟨by simp [go_sem]; rfl, by simp [go_sem]; rfl, by simp [go_sem]; rfl, by simp [go_sem], by simp [go_sem], fun j => by simp [go_sem], by simp; omega⟩
  have f0 : W.cell? ⟨w.heap.size + 1, 0, none⟩ = some (.int .i64 0) := by subst hW; simp [go_sem]
  have f1 : W.cell? ⟨w.heap.size + 1, 1, none⟩ = some (.int .i64 0) := by subst hW; simp [go_sem]
  have fz : ∀ j, W.frozen? ⟨w.heap.size + 1, j, none⟩ = false := by subst hW; intro j; simp [go_sem]
  rw [hW]
  clear hW
  refine (hcall W (hS.keep hbW)).mono ?_; clear hcall
  rintro e w1 ⟨hb1, v, rfl, hT⟩
  have XB1 := XB.keep hb1 XB.lt
  have f01 := cell_keep f0 hb1
  have f11 := cell_keep f1 hb1
  have fz10 := (hb1.frozen (p := ⟨w.heap.size + 1, 0, none⟩) (cell_lt f0)).trans (fz 0)
  have fz11 := (hb1.frozen (p := ⟨w.heap.size + 1, 1, none⟩) (cell_lt f0)).trans (fz 1)
  have hbw1 := chain hbW hb1
  have hFW := cell_lt f0
  have hFW1 := hb1.size
  clear XB f0 f1 fz hbW hb1
  obtain ⟨lv, kv, rfl, k1, k2⟩ := hT
  have K1 := Lib.hid (k1.keep (D' := fun k => w.heap.size + 1 < k) (fun _ _ _ => rfl) (fun k hk _ => by have : W.heap.size ≤ k := hk; omega))
  have K2 := Lib.hid (k2.keep (D' := fun k => w.heap.size + 1 < k) (fun _ _ _ => rfl) (fun k hk _ => by have : W.heap.size ≤ k := hk; omega))
  obtain ⟨A1, c1, rfl, -, -⟩ := k1
  obtain ⟨A2, c2, rfl, -, -⟩ := k2
  have hFW2 : w.heap.size + 1 < w1.heap.size := by omega
  clear hFW hFW1
  clear W
  have hs1 : w.heap.size < w1.heap.size := XB1.lt
  rename_i Kx hkx Ky hky
  have HKX := Lib.hid hkx
  clear hkx
  go_wp2_with fail
  have hb2 : Below w1.heap.size w1 ((w1.alloc (.cells #[.int .i64 t.kind, .int .i64 t.sort, .string ⟨t.name.toArray⟩, .slice A1 t.labels.length c1, .slice A2 t.kids.length c2] 51)).alloc (.cells #[.int .i64 c, .int .i64 (a : Int)] 44)) := ((Below.refl _ _).alloc (Nat.le_refl _) _).alloc (by simp) _
  have XB2 := XB1.keep hb2 XB1.lt
  have f02 := cell_keep f01 hb2
  have f12 := cell_keep f11 hb2
  have fz20 := (hb2.frozen (p := ⟨w.heap.size + 1, 0, none⟩) (cell_lt f01)).trans fz10
  have fz21 := (hb2.frozen (p := ⟨w.heap.size + 1, 1, none⟩) (cell_lt f01)).trans fz11
  have hbw2 := chain hbw1 hb2
  have TB2 : VBox ((w1.alloc (.cells #[.int .i64 t.kind, .int .i64 t.sort, .string ⟨t.name.toArray⟩, .slice A1 t.labels.length c1, .slice A2 t.kids.length c2] 51)).alloc (.cells #[.int .i64 c, .int .i64 (a : Int)] 44)) w1.heap.size t (.slice A1 t.labels.length c1) (.slice A2 t.kids.length c2) := ⟨by simp [go_sem], by simp [go_sem], by simp [go_sem], by simp [go_sem], by simp [go_sem], fun j => by simp [go_sem], by simp; omega⟩
  have g0 : (((w1.alloc (.cells #[.int .i64 t.kind, .int .i64 t.sort, .string ⟨t.name.toArray⟩, .slice A1 t.labels.length c1, .slice A2 t.kids.length c2] 51)).alloc (.cells #[.int .i64 c, .int .i64 (a : Int)] 44))).cell? ⟨w1.heap.size + 1, 0, none⟩ = some (.int .i64 c) := by simp [go_sem]
  have g1 : (((w1.alloc (.cells #[.int .i64 t.kind, .int .i64 t.sort, .string ⟨t.name.toArray⟩, .slice A1 t.labels.length c1, .slice A2 t.kids.length c2] 51)).alloc (.cells #[.int .i64 c, .int .i64 (a : Int)] 44))).cell? ⟨w1.heap.size + 1, 1, none⟩ = some (.int .i64 (a : Int)) := by simp [go_sem]
  replace K1 := Lib.hid (K1.out.keep (D' := fun k => w.heap.size + 1 < k) (Same.below hb2) (fun _ h _ => h))
  replace K2 := Lib.hid (K2.out.keep (D' := fun k => w.heap.size + 1 < k) (Same.below hb2) (fun _ h _ => h))
  generalize ((w1.alloc (.cells #[.int .i64 t.kind, .int .i64 t.sort, .string ⟨t.name.toArray⟩, .slice A1 t.labels.length c1, .slice A2 t.kids.length c2] 51)).alloc (.cells #[.int .i64 c, .int .i64 (a : Int)] 44)) = w2 at XB2 f02 f12 fz20 fz21 hbw2 TB2 g0 g1 K1 K2 ⊢
  clear hb2 XB1 f01 f11 fz10 fz11 hbw1
  generalize w1.heap.size = T at TB2 g0 g1 hFW2 hs1 ⊢
  clear w1
  refine HKX.out _ _ ?_
  clear HKX
  have hd1 : ¬ w.heap.size = T := by omega
  have hd2 : ¬ w.heap.size = T + 1 := by omega
  have hd3 : ¬ w.heap.size + 1 = T := by omega
  have hd4 : ¬ w.heap.size + 1 = T + 1 := by omega
  obtain ⟨x0, x1, x2, x3, x4, x5, x6⟩ := id XB2
  obtain ⟨t0, t1, t2, t3, t4, t5, t6⟩ := id TB2
  by_cases hcn : c = 0 ∧ n < l.length
  · obtain ⟨hc, hnl⟩ := hcn
    have hq := HP.out
    rw [if_pos ⟨hc, hnl⟩] at hq
    simp only [Prod.mk.injEq] at hq
    obtain ⟨rfl, rfl, rfl⟩ := hq
    have hnl' : (n : Int) < (l.length : Int) := by omega
    have hcb : (c == 0) = true := by simp [hc]
    clear hc HP
    go_wp2_with fail
    obtain ⟨TB9, f09, f19, hbl, hsm⟩ := laid2_facts w.heap.size (w.heap.size + 1) w2 XB2 f02 f12 (by omega) (by omega) zeroTy (.slice none 0 0) (.slice none 0 0) 3 (n : Int)
    have hbN := hbl _ _ hbw2 (Nat.le_refl _) (by omega)
    simp only [zeroTy, Ty.kind, Ty.sort, Ty.name] at TB9 f09 f19 hbN
    generalize (((((((w2.setCell ⟨w.heap.size, 0, none⟩ (.int .i64 0)).setCell ⟨w.heap.size, 1, none⟩ (.int .i64 0)).setCell ⟨w.heap.size, 2, none⟩ (.string ⟨([] : Str).toArray⟩)).setCell ⟨w.heap.size, 3, none⟩ (.slice none 0 0)).setCell ⟨w.heap.size, 4, none⟩ (.slice none 0 0)).setCell ⟨w.heap.size + 1, 0, none⟩ (.int .i64 3)).setCell ⟨w.heap.size + 1, 1, none⟩ (.int .i64 (n : Int))) = w9 at TB9 f09 f19 hbN ⊢
    obtain ⟨y0, y1, y2, y3, y4, y5, y6⟩ := id TB9
    simp only [Ty.kind, Ty.sort, Ty.name] at y0 y1 y2
    refine bodyPost_ret (v := .tuple #[.agg #[.int .i64 0, .int .i64 0, .string ⟨#[]⟩, .slice none 0 0, .slice none 0 0], .agg #[.int .i64 3, .int .i64 (n : Int)]]) (by simp [results, Tryd.results29, go_sem, y0, y1, y2, y3, y4, f09, f19]) rfl ?_
    exact ⟨hbN, _, rfl, ⟨_, _, rfl, no_strs _ _, no_tys _ _⟩⟩
  · have hq := HP.out
    rw [if_neg hcn] at hq
    simp only [Prod.mk.injEq] at hq
    obtain ⟨rfl, rfl, rfl⟩ := hq
    by_cases hc : c = 0
    · have hcb : (c == 0) = true := by simp [hc]
      have hnl' : ¬ (n : Int) < (l.length : Int) := by intro h; exact hcn ⟨hc, by omega⟩
      clear hcn HP hc
      go_wp2_with fail
      go_region
      go_wp2_with fail
      obtain ⟨TB9, f09, f19, hbl, hsm⟩ := laid2_facts w.heap.size (w.heap.size + 1) w2 XB2 f02 f12 (by omega) (by omega) t (.slice A1 t.labels.length c1) (.slice A2 t.kids.length c2) c (a : Int)
      have hbN := (hbl _ _ hbw2 (Nat.le_refl _) (by omega)).drew
      have K3 := K1.out.keep (D' := fun k => w.heap.size ≤ k) (fun k hk hl => hsm k (by have : w.heap.size + 1 < k := hk; omega) hl) (fun k hk _ => by have : w.heap.size + 1 < k := hk; omega)
      have K4 := K2.out.keep (D' := fun k => w.heap.size ≤ k) (fun k hk hl => hsm k (by have : w.heap.size + 1 < k := hk; omega) hl) (fun k hk _ => by have : w.heap.size + 1 < k := hk; omega)
      generalize (((((((w2.setCell ⟨w.heap.size, 0, none⟩ (.int .i64 t.kind)).setCell ⟨w.heap.size, 1, none⟩ (.int .i64 t.sort)).setCell ⟨w.heap.size, 2, none⟩ (.string ⟨t.name.toArray⟩)).setCell ⟨w.heap.size, 3, none⟩ (.slice A1 t.labels.length c1)).setCell ⟨w.heap.size, 4, none⟩ (.slice A2 t.kids.length c2)).setCell ⟨w.heap.size + 1, 0, none⟩ (.int .i64 c)).setCell ⟨w.heap.size + 1, 1, none⟩ (.int .i64 (a : Int))) = w9 at TB9 f09 f19 hbN K3 K4 ⊢
      have TB10 : VBox w9.drew w.heap.size t (.slice A1 t.labels.length c1) (.slice A2 t.kids.length c2) := ⟨TB9.c0, TB9.c1, TB9.c2, TB9.c3, TB9.c4, TB9.fr, TB9.lt⟩
      have f10 : w9.drew.cell? ⟨w.heap.size + 1, 0, none⟩ = some (.int .i64 c) := f09
      have f11 : w9.drew.cell? ⟨w.heap.size + 1, 1, none⟩ = some (.int .i64 (a : Int)) := f19
      have K5 := K3.keep (D' := fun k => w.heap.size ≤ k) (w' := w9.drew) (fun _ _ _ => rfl) (fun _ h _ => h)
      have K6 := K4.keep (D' := fun k => w.heap.size ≤ k) (w' := w9.drew) (fun _ _ _ => rfl) (fun _ h _ => h)
      generalize w9.drew = w11 at TB10 f10 f11 hbN K5 K6 ⊢
      obtain ⟨y0, y1, y2, y3, y4, y5, y6⟩ := id TB10
      refine bodyPost_ret (v := .tuple #[.agg #[.int .i64 t.kind, .int .i64 t.sort, .string ⟨t.name.toArray⟩, (.slice A1 t.labels.length c1), (.slice A2 t.kids.length c2)], .agg #[.int .i64 c, .int .i64 (a : Int)]]) (by simp [results, Tryd.results29, go_sem, y0, y1, y2, y3, y4, f10, f11]) rfl ?_
      exact ⟨hbN, _, rfl, ⟨_, _, rfl, K5, K6⟩⟩
    · have hcb : (c == 0) = false := by simpa using hc
      clear hcn HP
      go_wp2_with fail
      go_region
      go_wp2_with fail
      obtain ⟨TB9, f09, f19, hbl, hsm⟩ := laid2_facts w.heap.size (w.heap.size + 1) w2 XB2 f02 f12 (by omega) (by omega) t (.slice A1 t.labels.length c1) (.slice A2 t.kids.length c2) c (a : Int)
      have hbN := (hbl _ _ hbw2 (Nat.le_refl _) (by omega)).drew
      have K3 := K1.out.keep (D' := fun k => w.heap.size ≤ k) (fun k hk hl => hsm k (by have : w.heap.size + 1 < k := hk; omega) hl) (fun k hk _ => by have : w.heap.size + 1 < k := hk; omega)
      have K4 := K2.out.keep (D' := fun k => w.heap.size ≤ k) (fun k hk hl => hsm k (by have : w.heap.size + 1 < k := hk; omega) hl) (fun k hk _ => by have : w.heap.size + 1 < k := hk; omega)
      generalize (((((((w2.setCell ⟨w.heap.size, 0, none⟩ (.int .i64 t.kind)).setCell ⟨w.heap.size, 1, none⟩ (.int .i64 t.sort)).setCell ⟨w.heap.size, 2, none⟩ (.string ⟨t.name.toArray⟩)).setCell ⟨w.heap.size, 3, none⟩ (.slice A1 t.labels.length c1)).setCell ⟨w.heap.size, 4, none⟩ (.slice A2 t.kids.length c2)).setCell ⟨w.heap.size + 1, 0, none⟩ (.int .i64 c)).setCell ⟨w.heap.size + 1, 1, none⟩ (.int .i64 (a : Int))) = w9 at TB9 f09 f19 hbN K3 K4 ⊢
      have TB10 : VBox w9.drew w.heap.size t (.slice A1 t.labels.length c1) (.slice A2 t.kids.length c2) := ⟨TB9.c0, TB9.c1, TB9.c2, TB9.c3, TB9.c4, TB9.fr, TB9.lt⟩
      have f10 : w9.drew.cell? ⟨w.heap.size + 1, 0, none⟩ = some (.int .i64 c) := f09
      have f11 : w9.drew.cell? ⟨w.heap.size + 1, 1, none⟩ = some (.int .i64 (a : Int)) := f19
      have K5 := K3.keep (D' := fun k => w.heap.size ≤ k) (w' := w9.drew) (fun _ _ _ => rfl) (fun _ h _ => h)
      have K6 := K4.keep (D' := fun k => w.heap.size ≤ k) (w' := w9.drew) (fun _ _ _ => rfl) (fun _ h _ => h)
      generalize w9.drew = w11 at TB10 f10 f11 hbN K5 K6 ⊢
      obtain ⟨y0, y1, y2, y3, y4, y5, y6⟩ := id TB10
      refine bodyPost_ret (v := .tuple #[.agg #[.int .i64 t.kind, .int .i64 t.sort, .string ⟨t.name.toArray⟩, (.slice A1 t.labels.length c1), (.slice A2 t.kids.length c2)], .agg #[.int .i64 c, .int .i64 (a : Int)]]) (by simp [results, Tryd.results29, go_sem, y0, y1, y2, y3, y4, f10, f11]) rfl ?_
      exact ⟨hbN, _, rfl, ⟨_, _, rfl, K5, K6⟩⟩
set_option maxHeartbeats 1000000 in
theorem ParseType_any (l : Str) (w : World) (hl : l.length ≤ 9223372036854775807) :
    Calls Tryd.prog 30 #[.string ⟨l.toArray⟩] w fun e w' => Below w.heap.size w w' ∧ ∃ v, e = .returned (.tuple #[v, .agg #[.int .i64 (rdParse l).2.1, .int .i64 (rdParse l).2.2]]) ∧ TyD (fun k => w.heap.size ≤ k) w' v (rdParse l).1 := by
  obtain ⟨TT, CC, AA, hA⟩ : ∃ t c a, rdParse l = (t, c, a) := ⟨_, _, _, rfl⟩
  rw [hA]
  simp only
  have HA := Lib.hid hA; clear hA
  have hcall := fun w => BeginType_any l 0 0 (by omega) (by simp; omega) w hl
  obtain ⟨t, n, c, a, hB⟩ : ∃ t n c a, rdBegin l 0 = (t, n, c, a) := ⟨_, _, _, _, rfl⟩
  rw [hB] at hcall
  simp only at hcall
  have HP : Hid ((if c = 0 ∧ n < l.length then (zeroTy, 3, n) else (t, c, a)) = (TT, CC, AA)) := Lib.hid (by rw [← HA.out, rdParse, hB])
  have hn : n ≤ l.length := by
    have := congrArg (fun x => x.2.1) hB
    simp only at this
    rw [← this]
    unfold rdBegin
    split
    · simp
    · have htook := rdOne_took (l := l) (l.length + 1) 0 (by omega)
      split
      · simp
      · rename_i hr
        rw [hr] at htook
        split
        · exact (sk_le htook.2).2
        · simp
  clear HA hB
  go_enter Tryd.func30, Tryd.ntmps30
  go_wp2_with fail
  obtain ⟨W, hW⟩ : ∃ x, (w.alloc (.cells #[.int .i64 0, .int .i64 0, .string ⟨#[]⟩, .slice none 0 0, .slice none 0 0] 51)).alloc (.cells #[.int .i64 0, .int .i64 0] 44) = x := ⟨_, rfl⟩
  have hbW : Below w.heap.size w W := by subst hW; go_grown
  have XB : VBox W w.heap.size zeroTy (.slice none 0 0) (.slice none 0 0) := by subst hW; exact ⟨by simp [go_sem]; rfl, by simp [go_sem]; rfl, by simp [go_sem]; rfl, by simp [go_sem], by simp [go_sem], fun j => by simp [go_sem], by simp; omega⟩
  have f0 : W.cell? ⟨w.heap.size + 1, 0, none⟩ = some (.int .i64 0) := by subst hW; simp [go_sem]
  have f1 : W.cell? ⟨w.heap.size + 1, 1, none⟩ = some (.int .i64 0) := by subst hW; simp [go_sem]
  have fz : ∀ j, W.frozen? ⟨w.heap.size + 1, j, none⟩ = false := by subst hW; intro j; simp [go_sem]
  rw [hW]
  clear hW
  refine (hcall W).mono ?_; clear hcall
  rintro e w1 ⟨hb1, v, rfl, hT⟩
  have XB1 := XB.keep hb1 XB.lt
  have f01 := cell_keep f0 hb1
  have f11 := cell_keep f1 hb1
  have fz10 := (hb1.frozen (p := ⟨w.heap.size + 1, 0, none⟩) (cell_lt f0)).trans (fz 0)
  have fz11 := (hb1.frozen (p := ⟨w.heap.size + 1, 1, none⟩) (cell_lt f0)).trans (fz 1)
  have hbw1 := chain hbW hb1
  have hFW := cell_lt f0
  have hFW1 := hb1.size
  clear XB f0 f1 fz hbW hb1
  obtain ⟨lv, kv, rfl, k1, k2⟩ := hT
  have K1 := Lib.hid (k1.keep (D' := fun k => w.heap.size + 1 < k) (fun _ _ _ => rfl) (fun k hk _ => by have : W.heap.size ≤ k := hk; omega))
  have K2 := Lib.hid (k2.keep (D' := fun k => w.heap.size + 1 < k) (fun _ _ _ => rfl) (fun k hk _ => by have : W.heap.size ≤ k := hk; omega))
  obtain ⟨A1, c1, rfl, -, -⟩ := k1
  obtain ⟨A2, c2, rfl, -, -⟩ := k2
  have hFW2 : w.heap.size + 1 < w1.heap.size := by omega
  clear hFW hFW1
  clear W
  have hs1 : w.heap.size < w1.heap.size := XB1.lt
  rename_i Kx hkx Ky hky
  have HKX := Lib.hid hkx
  clear hkx
  go_wp2_with fail
  have hb2 : Below w1.heap.size w1 ((w1.alloc (.cells #[.int .i64 t.kind, .int .i64 t.sort, .string ⟨t.name.toArray⟩, .slice A1 t.labels.length c1, .slice A2 t.kids.length c2] 51)).alloc (.cells #[.int .i64 c, .int .i64 (a : Int)] 44)) := ((Below.refl _ _).alloc (Nat.le_refl _) _).alloc (by simp) _
  have XB2 := XB1.keep hb2 XB1.lt
  have f02 := cell_keep f01 hb2
  have f12 := cell_keep f11 hb2
  have fz20 := (hb2.frozen (p := ⟨w.heap.size + 1, 0, none⟩) (cell_lt f01)).trans fz10
  have fz21 := (hb2.frozen (p := ⟨w.heap.size + 1, 1, none⟩) (cell_lt f01)).trans fz11
  have hbw2 := chain hbw1 hb2
  have TB2 : VBox ((w1.alloc (.cells #[.int .i64 t.kind, .int .i64 t.sort, .string ⟨t.name.toArray⟩, .slice A1 t.labels.length c1, .slice A2 t.kids.length c2] 51)).alloc (.cells #[.int .i64 c, .int .i64 (a : Int)] 44)) w1.heap.size t (.slice A1 t.labels.length c1) (.slice A2 t.kids.length c2) := ⟨by simp [go_sem], by simp [go_sem], by simp [go_sem], by simp [go_sem], by simp [go_sem], fun j => by simp [go_sem], by simp; omega⟩
  have g0 : (((w1.alloc (.cells #[.int .i64 t.kind, .int .i64 t.sort, .string ⟨t.name.toArray⟩, .slice A1 t.labels.length c1, .slice A2 t.kids.length c2] 51)).alloc (.cells #[.int .i64 c, .int .i64 (a : Int)] 44))).cell? ⟨w1.heap.size + 1, 0, none⟩ = some (.int .i64 c) := by simp [go_sem]
  have g1 : (((w1.alloc (.cells #[.int .i64 t.kind, .int .i64 t.sort, .string ⟨t.name.toArray⟩, .slice A1 t.labels.length c1, .slice A2 t.kids.length c2] 51)).alloc (.cells #[.int .i64 c, .int .i64 (a : Int)] 44))).cell? ⟨w1.heap.size + 1, 1, none⟩ = some (.int .i64 (a : Int)) := by simp [go_sem]
  replace K1 := Lib.hid (K1.out.keep (D' := fun k => w.heap.size + 1 < k) (Same.below hb2) (fun _ h _ => h))
  replace K2 := Lib.hid (K2.out.keep (D' := fun k => w.heap.size + 1 < k) (Same.below hb2) (fun _ h _ => h))
  generalize ((w1.alloc (.cells #[.int .i64 t.kind, .int .i64 t.sort, .string ⟨t.name.toArray⟩, .slice A1 t.labels.length c1, .slice A2 t.kids.length c2] 51)).alloc (.cells #[.int .i64 c, .int .i64 (a : Int)] 44)) = w2 at XB2 f02 f12 fz20 fz21 hbw2 TB2 g0 g1 K1 K2 ⊢
  clear hb2 XB1 f01 f11 fz10 fz11 hbw1
  generalize w1.heap.size = T at TB2 g0 g1 hFW2 hs1 ⊢
  clear w1
  refine HKX.out _ _ ?_
  clear HKX
  have hd1 : ¬ w.heap.size = T := by omega
  have hd2 : ¬ w.heap.size = T + 1 := by omega
  have hd3 : ¬ w.heap.size + 1 = T := by omega
  have hd4 : ¬ w.heap.size + 1 = T + 1 := by omega
  obtain ⟨x0, x1, x2, x3, x4, x5, x6⟩ := id XB2
  obtain ⟨t0, t1, t2, t3, t4, t5, t6⟩ := id TB2
  by_cases hcn : c = 0 ∧ n < l.length
  · obtain ⟨hc, hnl⟩ := hcn
    have hq := HP.out
    rw [if_pos ⟨hc, hnl⟩] at hq
    simp only [Prod.mk.injEq] at hq
    obtain ⟨rfl, rfl, rfl⟩ := hq
    have hnl' : (n : Int) < (l.length : Int) := by omega
    have hcb : (c == 0) = true := by simp [hc]
    clear hc HP
    go_wp2_with fail
    obtain ⟨TB9, f09, f19, hbl, hsm⟩ := laid2_facts w.heap.size (w.heap.size + 1) w2 XB2 f02 f12 (by omega) (by omega) zeroTy (.slice none 0 0) (.slice none 0 0) 3 (n : Int)
    have hbN := hbl _ _ hbw2 (Nat.le_refl _) (by omega)
    simp only [zeroTy, Ty.kind, Ty.sort, Ty.name] at TB9 f09 f19 hbN
    generalize (((((((w2.setCell ⟨w.heap.size, 0, none⟩ (.int .i64 0)).setCell ⟨w.heap.size, 1, none⟩ (.int .i64 0)).setCell ⟨w.heap.size, 2, none⟩ (.string ⟨([] : Str).toArray⟩)).setCell ⟨w.heap.size, 3, none⟩ (.slice none 0 0)).setCell ⟨w.heap.size, 4, none⟩ (.slice none 0 0)).setCell ⟨w.heap.size + 1, 0, none⟩ (.int .i64 3)).setCell ⟨w.heap.size + 1, 1, none⟩ (.int .i64 (n : Int))) = w9 at TB9 f09 f19 hbN ⊢
    obtain ⟨y0, y1, y2, y3, y4, y5, y6⟩ := id TB9
    simp only [Ty.kind, Ty.sort, Ty.name] at y0 y1 y2
    refine bodyPost_ret (v := .tuple #[.agg #[.int .i64 0, .int .i64 0, .string ⟨#[]⟩, .slice none 0 0, .slice none 0 0], .agg #[.int .i64 3, .int .i64 (n : Int)]]) (by simp [results, Tryd.results30, go_sem, y0, y1, y2, y3, y4, f09, f19]) rfl ?_
    exact ⟨hbN, _, rfl, ⟨_, _, rfl, no_strs _ _, no_tys _ _⟩⟩
  · have hq := HP.out
    rw [if_neg hcn] at hq
    simp only [Prod.mk.injEq] at hq
    obtain ⟨rfl, rfl, rfl⟩ := hq
    by_cases hc : c = 0
    · have hcb : (c == 0) = true := by simp [hc]
      have hnl' : ¬ (n : Int) < (l.length : Int) := by intro h; exact hcn ⟨hc, by omega⟩
      clear hcn HP hc
      go_wp2_with fail
      go_region
      go_wp2_with fail
      obtain ⟨TB9, f09, f19, hbl, hsm⟩ := laid2_facts w.heap.size (w.heap.size + 1) w2 XB2 f02 f12 (by omega) (by omega) t (.slice A1 t.labels.length c1) (.slice A2 t.kids.length c2) c (a : Int)
      have hbN := (hbl _ _ hbw2 (Nat.le_refl _) (by omega)).drew
      have K3 := K1.out.keep (D' := fun k => w.heap.size ≤ k) (fun k hk hl => hsm k (by have : w.heap.size + 1 < k := hk; omega) hl) (fun k hk _ => by have : w.heap.size + 1 < k := hk; omega)
      have K4 := K2.out.keep (D' := fun k => w.heap.size ≤ k) (fun k hk hl => hsm k (by have : w.heap.size + 1 < k := hk; omega) hl) (fun k hk _ => by have : w.heap.size + 1 < k := hk; omega)
      generalize (((((((w2.setCell ⟨w.heap.size, 0, none⟩ (.int .i64 t.kind)).setCell ⟨w.heap.size, 1, none⟩ (.int .i64 t.sort)).setCell ⟨w.heap.size, 2, none⟩ (.string ⟨t.name.toArray⟩)).setCell ⟨w.heap.size, 3, none⟩ (.slice A1 t.labels.length c1)).setCell ⟨w.heap.size, 4, none⟩ (.slice A2 t.kids.length c2)).setCell ⟨w.heap.size + 1, 0, none⟩ (.int .i64 c)).setCell ⟨w.heap.size + 1, 1, none⟩ (.int .i64 (a : Int))) = w9 at TB9 f09 f19 hbN K3 K4 ⊢
      have TB10 : VBox w9.drew w.heap.size t (.slice A1 t.labels.length c1) (.slice A2 t.kids.length c2) := ⟨TB9.c0, TB9.c1, TB9.c2, TB9.c3, TB9.c4, TB9.fr, TB9.lt⟩
      have f10 : w9.drew.cell? ⟨w.heap.size + 1, 0, none⟩ = some (.int .i64 c) := f09
      have f11 : w9.drew.cell? ⟨w.heap.size + 1, 1, none⟩ = some (.int .i64 (a : Int)) := f19
      have K5 := K3.keep (D' := fun k => w.heap.size ≤ k) (w' := w9.drew) (fun _ _ _ => rfl) (fun _ h _ => h)
      have K6 := K4.keep (D' := fun k => w.heap.size ≤ k) (w' := w9.drew) (fun _ _ _ => rfl) (fun _ h _ => h)
      generalize w9.drew = w11 at TB10 f10 f11 hbN K5 K6 ⊢
      obtain ⟨y0, y1, y2, y3, y4, y5, y6⟩ := id TB10
      refine bodyPost_ret (v := .tuple #[.agg #[.int .i64 t.kind, .int .i64 t.sort, .string ⟨t.name.toArray⟩, (.slice A1 t.labels.length c1), (.slice A2 t.kids.length c2)], .agg #[.int .i64 c, .int .i64 (a : Int)]]) (by simp [results, Tryd.results30, go_sem, y0, y1, y2, y3, y4, f10, f11]) rfl ?_
      exact ⟨hbN, _, rfl, ⟨_, _, rfl, K5, K6⟩⟩
    · have hcb : (c == 0) = false := by simpa using hc
      clear hcn HP
      go_wp2_with fail
      go_region
      go_wp2_with fail
      obtain ⟨TB9, f09, f19, hbl, hsm⟩ := laid2_facts w.heap.size (w.heap.size + 1) w2 XB2 f02 f12 (by omega) (by omega) t (.slice A1 t.labels.length c1) (.slice A2 t.kids.length c2) c (a : Int)
      have hbN := (hbl _ _ hbw2 (Nat.le_refl _) (by omega)).drew
      have K3 := K1.out.keep (D' := fun k => w.heap.size ≤ k) (fun k hk hl => hsm k (by have : w.heap.size + 1 < k := hk; omega) hl) (fun k hk _ => by have : w.heap.size + 1 < k := hk; omega)
      have K4 := K2.out.keep (D' := fun k => w.heap.size ≤ k) (fun k hk hl => hsm k (by have : w.heap.size + 1 < k := hk; omega) hl) (fun k hk _ => by have : w.heap.size + 1 < k := hk; omega)
      generalize (((((((w2.setCell ⟨w.heap.size, 0, none⟩ (.int .i64 t.kind)).setCell ⟨w.heap.size, 1, none⟩ (.int .i64 t.sort)).setCell ⟨w.heap.size, 2, none⟩ (.string ⟨t.name.toArray⟩)).setCell ⟨w.heap.size, 3, none⟩ (.slice A1 t.labels.length c1)).setCell ⟨w.heap.size, 4, none⟩ (.slice A2 t.kids.length c2)).setCell ⟨w.heap.size + 1, 0, none⟩ (.int .i64 c)).setCell ⟨w.heap.size + 1, 1, none⟩ (.int .i64 (a : Int))) = w9 at TB9 f09 f19 hbN K3 K4 ⊢
      have TB10 : VBox w9.drew w.heap.size t (.slice A1 t.labels.length c1) (.slice A2 t.kids.length c2) := ⟨TB9.c0, TB9.c1, TB9.c2, TB9.c3, TB9.c4, TB9.fr, TB9.lt⟩
      have f10 : w9.drew.cell? ⟨w.heap.size + 1, 0, none⟩ = some (.int .i64 c) := f09
      have f11 : w9.drew.cell? ⟨w.heap.size + 1, 1, none⟩ = some (.int .i64 (a : Int)) := f19
      have K5 := K3.keep (D' := fun k => w.heap.size ≤ k) (w' := w9.drew) (fun _ _ _ => rfl) (fun _ h _ => h)
      have K6 := K4.keep (D' := fun k => w.heap.size ≤ k) (w' := w9.drew) (fun _ _ _ => rfl) (fun _ h _ => h)
      generalize w9.drew = w11 at TB10 f10 f11 hbN K5 K6 ⊢
      obtain ⟨y0, y1, y2, y3, y4, y5, y6⟩ := id TB10
      refine bodyPost_ret (v := .tuple #[.agg #[.int .i64 t.kind, .int .i64 t.sort, .string ⟨t.name.toArray⟩, (.slice A1 t.labels.length c1), (.slice A2 t.kids.length c2)], .agg #[.int .i64 c, .int .i64 (a : Int)]]) (by simp [results, Tryd.results30, go_sem, y0, y1, y2, y3, y4, f10, f11]) rfl ?_
      exact ⟨hbN, _, rfl, ⟨_, _, rfl, K5, K6⟩⟩
end Go.Proofs.YtcacembpegoghaaDoor
