/-
  The law ValuesMakes: the other cases, and all of them.
-/
import Derived.Test.YtcacembpegoghaaDoorVal12
namespace Go.Proofs.YtcacembpegoghaaDoor
open Go.RowKit Go.Proofs
attribute [local go_sem ↓] Go.wp_at_zero Go.wp_at_succ

/-- The two values' variables, and all else as it was. -/
structure Two (w : World) (s n : Int) (t : List UInt8) (s' n' : Int) (t' : List UInt8) (wr : World) : Prop where
  fA : Box wr w.heap.size s n t
  fB : Box wr (w.heap.size + 1) s' n' t'
  bel : Below w.heap.size w wr
  tabs : Tabs wr
theorem Two.keep {w : World} {s n s' n' : Int} {t t' : List UInt8} {wr w' : World} (h : Two w s n t s' n' t' wr) (hb : Below wr.heap.size wr w') : Two w s n t s' n' t' w' :=
  ⟨h.fA.keep hb, h.fB.keep hb, chain h.bel hb, h.tabs.below hb⟩
theorem Two.mk' (w : World) (s n : Int) (t : List UInt8) (s' n' : Int) (t' : List UInt8) (hT : Tabs w) :
    Two w s n t s' n' t' ((w.alloc (.cells #[.int .i64 s, .int .i64 n, .string ⟨t.toArray⟩] 23)).alloc (.cells #[.int .i64 s', .int .i64 n', .string ⟨t'.toArray⟩] 23)) := by
  have B0 := Box.mk' (w.alloc (.cells #[.int .i64 s, .int .i64 n, .string ⟨t.toArray⟩] 23)) s' n' t'
  rw [World.size_alloc] at B0
  exact ⟨(Box.mk' w s n t).alloc _, B0, by go_grown, hT.below (by go_grown)⟩

/-- What values.Order tells: the error, and the order if there is none. -/
def ordE (s n : Int) (t : List UInt8) (s' n' : Int) (t' : List UInt8) : Int := if chk s n t ≠ 0 then chk s n t else chk s' n' t'
theorem order_all (s n s' n' : Int) (t t' : List UInt8) (w : World) (hs : t.length ≤ 9223372036854775807) (hs' : t'.length ≤ 9223372036854775807) (hT : Tabs w) :
    Calls Tryd.prog 18 #[mkV s n t, mkV s' n' t'] w fun e w' => e = .returned (.tuple #[.int .i64 (if ordE s n t s' n' t' ≠ 0 then 0 else ordV s n t s' n' t'), .int .i64 (ordE s n t s' n' t')]) ∧ Below w.heap.size w w' := by
  unfold ordE
  by_cases h1 : chk s n t = 0
  · rw [if_neg (by omega : ¬ chk s n t ≠ 0)]
    by_cases h2 : chk s' n' t' = 0
    · have := order_ok s n s' n' t t' w hs hs' hT h1 h2
      simpa [h2] using this
    · have := order_bad2 s n s' n' t t' w hs hs' hT h1 h2
      simpa [h2] using this
  · rw [if_pos h1, if_pos h1]
    exact order_bad1 s n s' n' t t' w hs hT h1

set_option maxRecDepth 100000 in
set_option maxHeartbeats 4000000 in
/-- The first is wrong. -/
theorem makes_1 (s n s' n' : Int) (t t' : List UInt8) (w : World) (hs : t.length ≤ 9223372036854775807) (hs' : t'.length ≤ 9223372036854775807) (hT : Tabs w) (h1 : chk s n t ≠ 0) :
    Calls Tryd.prog 3 #[mkV s n t, mkV s' n' t'] w fun e w' => e = .returned (.bool true) ∧ Below w.heap.size w w' := by
  have g1 : chkT s n t = chk s n t := by simp [chkT, h1]
  have g2 : firstT [(s, n, t), (s', n', t')] = chk s n t := by simp [firstT, g1, h1]
  have g3 : ordE s n t s' n' t' = chk s n t := by simp [ordE, h1]
  obtain ⟨c, hc⟩ : ∃ c, chk s n t = c := ⟨_, rfl⟩
  rw [hc] at h1 g1 g2 g3
  have HC := Lib.hid hc; have G1 := Lib.hid g1; have G2 := Lib.hid g2; have G3 := Lib.hid g3; have H1 := Lib.hid h1
  have hcb : (c != 0) = true := by rw [bne_iff_ne]; exact h1
  have hce : (c == 0) = false := by rw [beq_eq_false_iff_ne]; exact h1
  clear hc g1 g2 g3 h1
  go_enter Tryd.func3, Tryd.ntmps3
  go_wp2_with fail
  have I0 := Two.mk' w s n t s' n' t' hT
  refine (refValue_any s n _ t hs I0.tabs).mono ?_; rw [HC.out]; rintro e w1 ⟨rfl, hb1⟩
  have I1 := I0.keep hb1
  obtain ⟨⟨a0, a1, a2, a3, a4⟩, ⟨b0, b1, b2, b3, b4⟩, hw1, hT1⟩ := id I1
  clear I0 hb1
  go_wp2_with fail
  have X1 := (Box.mk' w1 0 0 []).alloc (.cells #[.int .i64 0, .int .i64 0, .string ⟨[].toArray⟩] 23)
  have Y1 := Box.mk' (w1.alloc (.cells #[.int .i64 0, .int .i64 0, .string ⟨[].toArray⟩] 23)) 0 0 []
  rw [World.size_alloc] at Y1
  have hy : Below w1.heap.size w1 ((w1.alloc (.cells #[.int .i64 0, .int .i64 0, .string ⟨[].toArray⟩] 23)).alloc (.cells #[.int .i64 0, .int .i64 0, .string ⟨[].toArray⟩] 23)) := by go_grown
  have I2 := I1.keep hy
  refine (order_all s n s' n' t t' _ hs hs' I2.tabs).mono ?_; rw [G3.out, if_pos H1.out]; rintro e w3 ⟨rfl, hb3⟩
  have I3 := I2.keep hb3
  have X3 := X1.keep hb3; have Y3 := Y1.keep hb3
  obtain ⟨X, hX⟩ : ∃ X, w1.heap.size = X := ⟨_, rfl⟩
  rw [hX] at X3 Y3
  rw [hX]
  clear hX hy hb3 X1 Y1 I1 I2 hw1 hT1
  obtain ⟨⟨a0, a1, a2, a3, a4⟩, ⟨b0, b1, b2, b3, b4⟩, hw3, hT3⟩ := id I3
  go_wp2_with fail
  refine (length_bad s n t _ hs hT3 (by rw [G1.out]; exact H1.out)).mono ?_; rw [G1.out]; rintro e w4 ⟨rfl, hb4⟩
  have I4 := I3.keep hb4; have X4 := X3.keep hb4; have Y4 := Y3.keep hb4
  clear hb4 I3 X3 Y3 hw3 hT3
  obtain ⟨⟨a0, a1, a2, a3, a4⟩, ⟨b0, b1, b2, b3, b4⟩, hw4, hT4⟩ := id I4
  go_wp2_with fail
  refine (joined_bad s n s' n' t t' _ hs hs' hT4 (by rw [G2.out]; exact H1.out)).mono ?_; rw [G2.out]; rintro e w5 ⟨rfl, hb5⟩
  have I5 := I4.keep hb5; have X5 := X4.keep hb5; have Y5 := Y4.keep hb5
  clear hb5 I4 X4 Y4 hw4 hT4
  obtain ⟨⟨a0, a1, a2, a3, a4⟩, ⟨b0, b1, b2, b3, b4⟩, hw5, hT5⟩ := id I5
  go_wp2_with fail
  have hr : Below w5.heap.size w5 (w5.alloc (.cells #[.int .i64 0, .int .i64 0, .string ⟨[].toArray⟩] 23)) := by go_grown
  have R5 := Box.mk' w5 0 0 []
  have I6 := I5.keep hr; have X6 := X5.keep hr; have Y6 := Y5.keep hr
  refine (turned_bad s n t _ hs I6.tabs (by rw [G1.out]; exact H1.out)).mono ?_; rw [G1.out]; rintro e w7 ⟨rfl, hb7⟩
  have I7 := I6.keep hb7; obtain ⟨r0, r1, r2, r3, r4⟩ := R5.keep hb7; have X7 := X6.keep hb7; have Y7 := Y6.keep hb7
  obtain ⟨R, hR⟩ : ∃ R, w5.heap.size = R := ⟨_, rfl⟩
  rw [hR] at r0 r1 r2 r3 r4
  rw [hR]
  clear hb7 I5 I6 X5 X6 Y5 Y6 hw5 hT5 hr R5 hR
  obtain ⟨⟨a0, a1, a2, a3, a4⟩, ⟨b0, b1, b2, b3, b4⟩, hw7, hT7⟩ := id I7
  obtain ⟨x0, x1, x2, x3, x4⟩ := id X7
  obtain ⟨y0, y1, y2, y3, y4⟩ := id Y7
  go_wp2_with fail
  refine (oneInt_any 0 c 0 _ (by simp)).mono ?_; rintro e w' ⟨rfl, rfl⟩
  go_wp2_with fail
  refine (oneInt_any 0 c 0 _ (by simp)).mono ?_; rintro e w' ⟨rfl, rfl⟩
  go_wp2_with fail
  refine (oneValue_bad c 0 0 [] _ H1.out).mono ?_; rintro e w8 ⟨rfl, hb8⟩
  have hS : Below w7.heap.size w7 (w7.alloc (.cells #[.int .i64 0, .int .i64 0, .string ⟨[].toArray⟩] 23)) := by go_grown
  obtain ⟨s0, s1, s2, s3, s4⟩ := (Box.mk' w7 0 0 []).keep hb8
  obtain ⟨y0, y1, y2, y3, y4⟩ := (Y7.keep hS).keep hb8
  have I8 := (I7.keep hS).keep hb8
  go_wp2_with fail
  refine (oneValue_bad c 0 0 [] _ H1.out).mono ?_; rintro e w9 ⟨rfl, hb9⟩
  go_wp2_with fail
  go_ret
  exact ⟨rfl, chain I8.bel hb9⟩
end Go.Proofs.YtcacembpegoghaaDoor
