/-
  The law ValuesMakes, case by case.
-/
import Derived.Test.YtcacembpegoghaaDoorVal11
namespace Go.Proofs.YtcacembpegoghaaDoor
open Go.RowKit Go.Proofs
attribute [local go_sem ↓] Go.wp_at_zero Go.wp_at_succ

/-- A variable that holds a value. -/
structure Box (w : World) (b : Nat) (s n : Int) (t : List UInt8) : Prop where
  c0 : w.cell? ⟨b, 0, none⟩ = some (.int .i64 s)
  c1 : w.cell? ⟨b, 1, none⟩ = some (.int .i64 n)
  c2 : w.cell? ⟨b, 2, none⟩ = some (.string ⟨t.toArray⟩)
  fr : ∀ j, w.frozen? ⟨b, j, none⟩ = false
  lt : b < w.heap.size
theorem Box.keep {w w' : World} {b : Nat} {s n : Int} {t : List UInt8} (h : Box w b s n t) (hb : Below w.heap.size w w') : Box w' b s n t :=
  ⟨(hb.cell (p := ⟨b, 0, none⟩) h.lt).trans h.c0, (hb.cell (p := ⟨b, 1, none⟩) h.lt).trans h.c1, (hb.cell (p := ⟨b, 2, none⟩) h.lt).trans h.c2, fun j => (hb.frozen (p := ⟨b, j, none⟩) h.lt).trans (h.fr j), Nat.lt_of_lt_of_le h.lt hb.size⟩
theorem Box.mk' (w : World) (s n : Int) (t : List UInt8) : Box (w.alloc (.cells #[.int .i64 s, .int .i64 n, .string ⟨t.toArray⟩] 23)) w.heap.size s n t :=
  ⟨by simp [go_sem], by simp [go_sem], by simp [go_sem], fun j => by simp [go_sem], by simp⟩
theorem Box.alloc {w : World} {b : Nat} {s n : Int} {t : List UInt8} (h : Box w b s n t) (o : Obj) : Box (w.alloc o) b s n t :=
  h.keep ((Below.refl _ _).alloc (Nat.le_refl _) _)

theorem Box.far {w : World} {b : Nat} {s n : Int} {t : List UInt8} (h : Box w b s n t) {p : Addr} (hp : p.block ≠ b) (u : Value) : Box (w.setCell p u) b s n t :=
  ⟨(World.cell?_setCell_other w p _ u (fun e => hp (by subst e; rfl))).trans h.c0, (World.cell?_setCell_other w p _ u (fun e => hp (by subst e; rfl))).trans h.c1, (World.cell?_setCell_other w p _ u (fun e => hp (by subst e; rfl))).trans h.c2,
    fun j => (World.frozen?_of_block (a := ⟨b, j, none⟩) (Below.heap_setCell w p u b (fun e => hp e.symm))).trans (h.fr j), by have := h.lt; simp [World.setCell]; exact this⟩
theorem Box.far3 {w : World} {b c : Nat} {s n : Int} {t : List UInt8} (h : Box w b s n t) (hp : c ≠ b) (u v x : Value) : Box (((w.setCell ⟨c, 0, none⟩ u).setCell ⟨c, 1, none⟩ v).setCell ⟨c, 2, none⟩ x) b s n t :=
  ((h.far (p := ⟨c, 0, none⟩) hp u).far (p := ⟨c, 1, none⟩) hp v).far (p := ⟨c, 2, none⟩) hp x
theorem Box.store {w : World} {b : Nat} {s n : Int} {t : List UInt8} (h : Box w b s n t) (s' n' : Int) (t' : List UInt8) : Box (((w.setCell ⟨b, 0, none⟩ (.int .i64 s')).setCell ⟨b, 1, none⟩ (.int .i64 n')).setCell ⟨b, 2, none⟩ (.string ⟨t'.toArray⟩)) b s' n' t' := by
  obtain ⟨c0, c1, c2, fr, lt⟩ := h
  exact ⟨by simp [go_sem, c0, c1, c2], by simp [go_sem, c0, c1, c2], by simp [go_sem, c0, c1, c2], fun j => by simp [go_sem, fr], by simpa [World.setCell] using lt⟩

/-- The four variables of the law, as they lie in memory, and all else as it was. -/
structure Inv (w : World) (H X : Nat) (t t' tx ty : List UInt8) (sx sy : Int) (wr : World) : Prop where
  fA : Box wr H 3 0 t
  fB : Box wr (H + 1) 3 0 t'
  fX : Box wr X sx 0 tx
  fY : Box wr (X + 1) sy 0 ty
  bel : Below w.heap.size w wr
  tabs : Tabs wr
theorem Inv.keep {w : World} {H X : Nat} {t t' tx ty : List UInt8} {sx sy : Int} {wr w' : World} (h : Inv w H X t t' tx ty sx sy wr) (hb : Below wr.heap.size wr w') : Inv w H X t t' tx ty sx sy w' :=
  ⟨h.fA.keep hb, h.fB.keep hb, h.fX.keep hb, h.fY.keep hb, chain h.bel hb, h.tabs.below hb⟩
theorem Inv.setY {w : World} {H X : Nat} {t t' tx ty : List UInt8} {sx sy : Int} {wr : World} (h : Inv w H X t t' tx ty sx sy wr) (hT : Tabs w) (hw : w.heap.size ≤ X) (hH : H + 1 < X) (s' : Int) (u : List UInt8) :
    Inv w H X t t' tx u sx s' (((wr.setCell ⟨X + 1, 0, none⟩ (.int .i64 s')).setCell ⟨X + 1, 1, none⟩ (.int .i64 0)).setCell ⟨X + 1, 2, none⟩ (.string ⟨u.toArray⟩)) := by
  have hb : Below w.heap.size w (((wr.setCell ⟨X + 1, 0, none⟩ (.int .i64 s')).setCell ⟨X + 1, 1, none⟩ (.int .i64 0)).setCell ⟨X + 1, 2, none⟩ (.string ⟨u.toArray⟩)) :=
    ((h.bel.setCell (by show _ ≤ X + 1; omega) _).setCell (by show _ ≤ X + 1; omega) _).setCell (by show _ ≤ X + 1; omega) _
  exact ⟨h.fA.far3 (by omega) _ _ _, h.fB.far3 (by omega) _ _ _, h.fX.far3 (by omega) _ _ _, h.fY.store s' 0 u, hb, hT.below hb⟩
theorem Inv.setX {w : World} {H X : Nat} {t t' tx ty : List UInt8} {sx sy : Int} {wr : World} (h : Inv w H X t t' tx ty sx sy wr) (hT : Tabs w) (hw : w.heap.size ≤ X) (hH : H + 1 < X) (s' : Int) (u : List UInt8) :
    Inv w H X t t' u ty s' sy (((wr.setCell ⟨X, 0, none⟩ (.int .i64 s')).setCell ⟨X, 1, none⟩ (.int .i64 0)).setCell ⟨X, 2, none⟩ (.string ⟨u.toArray⟩)) := by
  have hb : Below w.heap.size w (((wr.setCell ⟨X, 0, none⟩ (.int .i64 s')).setCell ⟨X, 1, none⟩ (.int .i64 0)).setCell ⟨X, 2, none⟩ (.string ⟨u.toArray⟩)) :=
    ((h.bel.setCell (by show _ ≤ X; omega) _).setCell (by show _ ≤ X; omega) _).setCell (by show _ ≤ X; omega) _
  exact ⟨h.fA.far3 (by omega) _ _ _, h.fB.far3 (by omega) _ _ _, h.fX.store s' 0 u, h.fY.far3 (by omega) _ _ _, hb, hT.below hb⟩

set_option maxRecDepth 100000 in
set_option maxHeartbeats 4000000 in
/-- Both are texts. -/
theorem makes_3c (t t' : List UInt8) (w : World) (hT : Tabs w) (h1 : chk 3 0 t = 0) (h2 : chk 3 0 t' = 0) :
    Calls Tryd.prog 3 #[mkV 3 0 t, mkV 3 0 t'] w fun e w' => e = .returned (.bool true) ∧ Below w.heap.size w w' := by
  have g1 : chkT 3 0 t = 0 := by simp [chkT, h1]
  have g2 : chkT 3 0 t' = 0 := by simp [chkT, h2]
  obtain ⟨-, -, hl, rs, hr⟩ := chkT_zero g1
  obtain ⟨-, -, hl', rs', hr'⟩ := chkT_zero g2
  have H1 := Lib.hid h1; have H2 := Lib.hid h2; have G1 := Lib.hid g1; have G2 := Lib.hid g2; have HR := Lib.hid hr; have HR' := Lib.hid hr'
  clear h1 h2 g1 g2 hr hr'
  obtain ⟨o, ho⟩ : ∃ o, ordV 3 0 t 3 0 t' = o := ⟨_, rfl⟩
  obtain ⟨u, hu⟩ : ∃ u, rs.reverse.flatMap enc = u := ⟨_, rfl⟩
  obtain ⟨J, hJ⟩ : ∃ J, joinGo [] (rs ++ rs') = J := ⟨_, rfl⟩
  have HO := Lib.hid ho; have HU := Lib.hid hu; have HJ := Lib.hid hJ
  clear ho hu hJ
  go_enter Tryd.func3, Tryd.ntmps3
  go_wp2_with fail
  have A0 := (Box.mk' w 3 0 t).alloc (.cells #[.int .i64 3, .int .i64 0, .string ⟨t'.toArray⟩] 23)
  have B0 := Box.mk' (w.alloc (.cells #[.int .i64 3, .int .i64 0, .string ⟨t.toArray⟩] 23)) 3 0 t'
  rw [World.size_alloc] at B0
  refine (refValue_any 3 0 _ t (by omega) (hT.below (by go_grown))).mono ?_; rw [H1.out]; rintro e w1 ⟨rfl, hb1⟩
  have hw1 := chain (w := w) (by go_grown) hb1
  obtain ⟨a0, a1, a2, a3, a4⟩ := A0.keep hb1
  obtain ⟨b0, b1, b2, b3, b4⟩ := B0.keep hb1
  clear A0 B0 hb1
  go_wp2_with fail
  refine (refValue_any 3 0 _ t' (by omega) (hT.below hw1)).mono ?_; rw [H2.out]; rintro e w2 ⟨rfl, hb2⟩
  have hw2 := chain hw1 hb2
  obtain ⟨a0, a1, a2, a3, a4⟩ := Box.keep ⟨a0, a1, a2, a3, a4⟩ hb2
  obtain ⟨b0, b1, b2, b3, b4⟩ := Box.keep ⟨b0, b1, b2, b3, b4⟩ hb2
  clear hw1 hb2
  go_wp2_with fail
  refine (refValue_any 3 0 _ t' (by omega) (hT.below hw2)).mono ?_; rw [H2.out]; rintro e w3 ⟨rfl, hb3⟩
  have hw3 := chain hw2 hb3
  obtain ⟨a0, a1, a2, a3, a4⟩ := Box.keep ⟨a0, a1, a2, a3, a4⟩ hb3
  obtain ⟨b0, b1, b2, b3, b4⟩ := Box.keep ⟨b0, b1, b2, b3, b4⟩ hb3
  clear hw2 hb3
  go_wp2_with fail
  have hB3 := b4
  have X3 := (Box.mk' w3 0 0 []).alloc (.cells #[.int .i64 0, .int .i64 0, .string ⟨[].toArray⟩] 23)
  have Y3 := Box.mk' (w3.alloc (.cells #[.int .i64 0, .int .i64 0, .string ⟨[].toArray⟩] 23)) 0 0 []
  rw [World.size_alloc] at Y3
  have hy3 : Below w3.heap.size w3 ((w3.alloc (.cells #[.int .i64 0, .int .i64 0, .string ⟨[].toArray⟩] 23)).alloc (.cells #[.int .i64 0, .int .i64 0, .string ⟨[].toArray⟩] 23)) := by go_grown
  refine (refOrder_any 3 0 3 0 t t' _).mono ?_; rw [HO.out]; rintro e w4 ⟨rfl, hb4⟩
  have hw4 := chain (chain hw3 hy3) hb4
  obtain ⟨a0, a1, a2, a3, a4⟩ := (Box.keep ⟨a0, a1, a2, a3, a4⟩ hy3).keep hb4
  obtain ⟨b0, b1, b2, b3, b4⟩ := (Box.keep ⟨b0, b1, b2, b3, b4⟩ hy3).keep hb4
  obtain ⟨x0, x1, x2, x3, x4⟩ := X3.keep hb4
  obtain ⟨y0, y1, y2, y3, y4⟩ := Y3.keep hb4
  obtain ⟨X, hX⟩ : ∃ X, w3.heap.size = X := ⟨_, rfl⟩
  rw [hX] at x0 x1 x2 x3 x4 y0 y1 y2 y3 y4
  have hXw : w.heap.size ≤ X := by rw [← hX]; exact hw3.size
  have hX2 : w.heap.size + 1 < X := by rw [← hX]; exact hB3
  clear hw3 hb4 hy3 X3 Y3
  rw [hX]
  clear hX
  go_wp2_with fail
  have c4 : Inv w w.heap.size X t t' [] [] 0 0 w4.drew := ⟨⟨a0, a1, a2, a3, a4⟩, ⟨b0, b1, b2, b3, b4⟩, ⟨x0, x1, x2, x3, x4⟩, ⟨y0, y1, y2, y3, y4⟩, hw4.drew, hT.below hw4.drew⟩
  have hXH : w.heap.size + 1 < X := hX2
  have hne : ¬ w.heap.size = X + 1 := by omega
  have hne' : ¬ X + 1 = w.heap.size := by omega
  clear b0 b1 b2 b3 x0 x1 x2 x3 y0 y1 y2 y3
  go_region_held3 (fun w' => w'.cell? ⟨w.heap.size, 2, none⟩ = some (.string ⟨t.toArray⟩))
    (first | exact c4.fA.c2 | exact c5.fA.c2 | exact c6.fA.c2 | go_keep)
    (first
      | (go_at_call 15; refine (refLength_any t rs _ (by first | exact c4.tabs | exact c6.tabs) hl HR.out).mono ?_; rintro e w5 ⟨rfl, hb5⟩; have c5 := Inv.keep (by first | exact c4 | exact c6) hb5; obtain ⟨m0, m1, m2, m3, m4⟩ := c5.fY)
      | (go_at_call 16; refine (refTurned_any t rs _ (by first | exact c4.tabs | exact c5.tabs) hl HR.out).mono ?_; rw [HU.out]; rintro e w6 ⟨rfl, hb6⟩; have c6 := Inv.keep (by first | exact c4 | exact c5) hb6; obtain ⟨m0, m1, m2, m3, m4⟩ := c6.fY))
  have I7 := c6.setY hT hXw hXH 3 u
  generalize hw7 : (((w6.setCell ⟨X + 1, 0, none⟩ (.int .i64 3)).setCell ⟨X + 1, 1, none⟩ (.int .i64 0)).setCell ⟨X + 1, 2, none⟩ (.string ⟨u.toArray⟩)) = w7 at I7 ⊢
  clear hw7
  obtain ⟨⟨a0, a1, a2, a3, a4⟩, ⟨b0, b1, b2, b3, b4⟩, ⟨x0, x1, x2, x3, x4⟩, ⟨y0, y1, y2, y3, y4⟩, hw7, hT7⟩ := id I7
  clear c4 c5 c6 m0 m1 m2 m3 m4 hb5 hb6
  go_wp2_with fail
  refine (refJoined_any t t' rs rs' _ hT7 hl hl' HR.out HR'.out).mono ?_; rw [HJ.out]; rintro e w8 ⟨rfl, hb8⟩
  have I8 := I7.keep hb8
  obtain ⟨⟨a0, a1, a2, a3, a4⟩, ⟨b0, b1, b2, b3, b4⟩, ⟨x0, x1, x2, x3, x4⟩, ⟨y0, y1, y2, y3, y4⟩, hw8, hT8⟩ := id I8
  clear hw7 hT7 hb8 I7
  have I9 := I8.setX hT hXw hXH 3 J
  go_wp2_with fail
  generalize hw9 : (((w8.setCell ⟨X, 0, none⟩ (.int .i64 3)).setCell ⟨X, 1, none⟩ (.int .i64 0)).setCell ⟨X, 2, none⟩ (.string ⟨J.toArray⟩)) = w9 at I9 ⊢
  clear hw9 I8 hw8 hT8
  refine (order_ok 3 0 3 0 t t' _ (by omega) (by omega) I9.tabs H1.out H2.out).mono ?_; rw [HO.out]; rintro e w10 ⟨rfl, hb10⟩
  have I10 := I9.keep hb10
  obtain ⟨⟨a0, a1, a2, a3, a4⟩, ⟨b0, b1, b2, b3, b4⟩, ⟨x0, x1, x2, x3, x4⟩, ⟨y0, y1, y2, y3, y4⟩, hw10, hT10⟩ := id I10
  clear hb10 I9
  go_wp2_with fail
  refine (length_ok t rs _ hT10 G1.out HR.out).mono ?_; rintro e w11 ⟨rfl, hb11⟩
  have I11 := I10.keep hb11
  obtain ⟨⟨a0, a1, a2, a3, a4⟩, ⟨b0, b1, b2, b3, b4⟩, ⟨x0, x1, x2, x3, x4⟩, ⟨y0, y1, y2, y3, y4⟩, hw11, hT11⟩ := id I11
  clear hb11 I10 hw10 hT10
  go_wp2_with fail
  refine (joined_ok t t' rs rs' _ hT11 G1.out G2.out HR.out HR'.out).mono ?_; rw [HJ.out]; rintro e w12 ⟨rfl, hb12⟩
  have I12 := I11.keep hb12
  obtain ⟨⟨a0, a1, a2, a3, a4⟩, ⟨b0, b1, b2, b3, b4⟩, ⟨x0, x1, x2, x3, x4⟩, ⟨y0, y1, y2, y3, y4⟩, hw12, hT12⟩ := id I12
  clear hb12 I11 hw11 hT11
  go_wp2_with fail
  have R12 := Box.mk' w12 3 0 J
  have ha12 : Below w12.heap.size w12 (w12.alloc (.cells #[.int .i64 3, .int .i64 0, .string ⟨J.toArray⟩] 23)) := by go_grown
  have I12' := I12.keep ha12
  refine (turned_ok t rs _ I12'.tabs G1.out HR.out).mono ?_; rw [HU.out]; rintro e w13 ⟨rfl, hb13⟩
  have I13 := I12'.keep hb13
  obtain ⟨r0, r1, r2, r3, r4⟩ := R12.keep hb13
  obtain ⟨R, hR⟩ : ∃ R, w12.heap.size = R := ⟨_, rfl⟩
  rw [hR] at r0 r1 r2 r3 r4
  rw [hR]
  obtain ⟨⟨a0, a1, a2, a3, a4⟩, ⟨b0, b1, b2, b3, b4⟩, ⟨x0, x1, x2, x3, x4⟩, ⟨y0, y1, y2, y3, y4⟩, hw13, hT13⟩ := id I13
  clear hb13 I12 I12' hw12 hT12 R12 ha12 hR
  go_wp2_with fail
  refine (oneInt_any o 0 o _ (by simp)).mono ?_; rintro e w' ⟨rfl, rfl⟩
  go_wp2_with fail
  refine (oneInt_any _ 0 _ _ (by simp)).mono ?_; rintro e w' ⟨rfl, rfl⟩
  go_wp2_with fail
  refine (oneValue_ok 3 0 J _).mono ?_; rintro e w14 ⟨rfl, hb14⟩
  have S13 := Box.mk' w13 3 0 u
  have hS : Below w13.heap.size w13 (w13.alloc (.cells #[.int .i64 3, .int .i64 0, .string ⟨u.toArray⟩] 23)) := by go_grown
  have I14 := (I13.keep hS).keep hb14
  obtain ⟨s0, s1, s2, s3, s4⟩ := S13.keep hb14
  obtain ⟨⟨a0, a1, a2, a3, a4⟩, ⟨b0, b1, b2, b3, b4⟩, ⟨x0, x1, x2, x3, x4⟩, ⟨y0, y1, y2, y3, y4⟩, hw14, hT14⟩ := id I14
  go_wp2_with fail
  refine (oneValue_ok 3 0 u _).mono ?_; rintro e w15 ⟨rfl, hb15⟩
  go_wp2_with fail
  go_ret
  exact ⟨rfl, chain hw14 hb15⟩
end Go.Proofs.YtcacembpegoghaaDoor
