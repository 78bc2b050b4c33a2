/-
  The law ValuesMakes: the first is a value and no text, or is a text and the second is none. Written by the program gen_val14.py.
-/
import Derived.Test.YtcacembpegoghaaDoorVal13
namespace Go.Proofs.YtcacembpegoghaaDoor
open Go.RowKit Go.Proofs
attribute [local go_sem ↓] Go.wp_at_zero Go.wp_at_succ

set_option maxRecDepth 100000 in
set_option maxHeartbeats 4000000 in
/-- The first is no text, the second wrong. -/
theorem makes_2a (s n s' n' : Int) (t t' : List UInt8) (w : World) (hs : t.length ≤ 9223372036854775807) (hs' : t'.length ≤ 9223372036854775807) (hT : Tabs w) (h1 : chk s n t = 0) (h3 : s ≠ 3) (h2 : chk s' n' t' ≠ 0) :
    Calls Tryd.prog 3 #[mkV s n t, mkV s' n' t'] w fun e w' => e = .returned (.bool true) ∧ Below w.heap.size w w' := by
  have g1 : chkT s n t = 5 := by simp [chkT, h1, h3]
  have g2 : firstT [(s, n, t), (s', n', t')] = 5 := by simp [firstT, g1]
  have g3 : ordE s n t s' n' t' = chk s' n' t' := by simp [ordE, h1]
  obtain ⟨c, hc⟩ : ∃ c, chk s' n' t' = c := ⟨_, rfl⟩
  rw [hc] at h2 g3
  have hcb : (c != 0) = true := by rw [bne_iff_ne]; exact h2
  have hce : (c == 0) = false := by rw [beq_eq_false_iff_ne]; exact h2
  have HC := Lib.hid hc; have HN := Lib.hid h2; clear hc h2
  have H1 := Lib.hid h1; have G1 := Lib.hid g1; have G2 := Lib.hid g2; have G3 := Lib.hid g3; clear h1 g1 g2 g3
  have h3b : (s != 3) = true := by rw [bne_iff_ne]; exact h3
  clear h3
  go_enter Tryd.func3, Tryd.ntmps3
  go_wp2_with fail
  have I := Two.mk' w s n t s' n' t' hT
  refine (refValue_any s n _ t hs I.tabs).mono ?_; rw [H1.out]; rintro e w1 ⟨rfl, hb⟩
  replace I := I.keep hb
  clear hb
  obtain ⟨⟨a0, a1, a2, a3, a4⟩, ⟨b0, b1, b2, b3, b4⟩, hw, hTw⟩ := id I
  go_wp2_with fail
  refine (refValue_any s' n' _ t' hs' I.tabs).mono ?_; rw [HC.out]; rintro e w2 ⟨rfl, hb⟩
  replace I := I.keep hb
  clear hb
  obtain ⟨⟨a0, a1, a2, a3, a4⟩, ⟨b0, b1, b2, b3, b4⟩, hw, hTw⟩ := id I
  go_wp2_with fail
  have X := (Box.mk' w2 0 0 []).alloc (.cells #[.int .i64 0, .int .i64 0, .string ⟨[].toArray⟩] 23)
  have Y := Box.mk' (w2.alloc (.cells #[.int .i64 0, .int .i64 0, .string ⟨[].toArray⟩] 23)) 0 0 []
  rw [World.size_alloc] at Y
  have hy : Below w2.heap.size w2 ((w2.alloc (.cells #[.int .i64 0, .int .i64 0, .string ⟨[].toArray⟩] 23)).alloc (.cells #[.int .i64 0, .int .i64 0, .string ⟨[].toArray⟩] 23)) := by go_grown
  have hXH : w.heap.size + 1 < w2.heap.size := I.fB.lt
  replace I := I.keep hy
  clear hy
  refine (order_all s n s' n' t t' _ hs hs' I.tabs).mono ?_; rw [G3.out, if_pos HN.out]; rintro e w3 ⟨rfl, hb⟩
  replace I := I.keep hb
  replace X := X.keep hb
  replace Y := Y.keep hb
  clear hb
  obtain ⟨q, hq⟩ : ∃ q, w2.heap.size = q := ⟨_, rfl⟩
  rw [hq] at X Y hXH
  rw [hq]
  clear hq
  obtain ⟨⟨a0, a1, a2, a3, a4⟩, ⟨b0, b1, b2, b3, b4⟩, hw, hTw⟩ := id I
  obtain ⟨x0, x1, x2, x3, x4⟩ := id X
  obtain ⟨y0, y1, y2, y3, y4⟩ := id Y
  go_wp2_with fail
  refine (length_bad s n t _ hs I.tabs (by rw [G1.out]; decide)).mono ?_; rw [G1.out]; rintro e w4 ⟨rfl, hb⟩
  replace I := I.keep hb
  replace X := X.keep hb
  replace Y := Y.keep hb
  clear hb
  obtain ⟨⟨a0, a1, a2, a3, a4⟩, ⟨b0, b1, b2, b3, b4⟩, hw, hTw⟩ := id I
  obtain ⟨x0, x1, x2, x3, x4⟩ := id X
  obtain ⟨y0, y1, y2, y3, y4⟩ := id Y
  go_wp2_with fail
  refine (joined_bad s n s' n' t t' _ hs hs' I.tabs (by rw [G2.out]; decide)).mono ?_; rw [G2.out]; rintro e w5 ⟨rfl, hb⟩
  replace I := I.keep hb
  replace X := X.keep hb
  replace Y := Y.keep hb
  clear hb
  obtain ⟨⟨a0, a1, a2, a3, a4⟩, ⟨b0, b1, b2, b3, b4⟩, hw, hTw⟩ := id I
  obtain ⟨x0, x1, x2, x3, x4⟩ := id X
  obtain ⟨y0, y1, y2, y3, y4⟩ := id Y
  go_wp2_with fail
  have R := Box.mk' w5 0 0 []
  have hr : Below w5.heap.size w5 (w5.alloc (.cells #[.int .i64 0, .int .i64 0, .string ⟨([] : List UInt8).toArray⟩] 23)) := by go_grown
  replace I := I.keep hr
  replace X := X.keep hr
  replace Y := Y.keep hr
  clear hr
  refine (turned_bad s n t _ hs I.tabs (by rw [G1.out]; decide)).mono ?_; rw [G1.out]; rintro e w6 ⟨rfl, hb⟩
  replace I := I.keep hb
  replace X := X.keep hb
  replace Y := Y.keep hb
  replace R := R.keep hb
  clear hb
  obtain ⟨r1, hr⟩ : ∃ r, w5.heap.size = r := ⟨_, rfl⟩
  rw [hr] at R
  rw [hr]
  clear hr
  obtain ⟨⟨a0, a1, a2, a3, a4⟩, ⟨b0, b1, b2, b3, b4⟩, hw, hTw⟩ := id I
  obtain ⟨x0, x1, x2, x3, x4⟩ := id X
  obtain ⟨y0, y1, y2, y3, y4⟩ := id Y
  obtain ⟨r0, r1, r2, r3, r4⟩ := id R
  go_wp2_with fail
  refine (oneInt_any 0 c 0 _ (by simp)).mono ?_; rintro e w' ⟨rfl, rfl⟩
  go_wp2_with fail
  refine (oneInt_any 0 5 0 _ (by simp)).mono ?_; rintro e w' ⟨rfl, rfl⟩
  go_wp2_with fail
  refine (oneValue_bad 5 0 0 [] _ (by decide)).mono ?_; rintro e v8 ⟨rfl, hb8⟩
  have hS : Below w6.heap.size w6 (w6.alloc (.cells #[.int .i64 0, .int .i64 0, .string ⟨([] : List UInt8).toArray⟩] 23)) := by go_grown
  obtain ⟨s0, s1, s2, s3, s4⟩ := (Box.mk' w6 0 0 []).keep hb8
  obtain ⟨y0, y1, y2, y3, y4⟩ := (Y.keep hS).keep hb8
  replace I := (I.keep hS).keep hb8
  go_wp2_with fail
  refine (oneValue_bad 5 0 0 [] _ (by decide)).mono ?_; rintro e v9 ⟨rfl, hb9⟩
  go_wp2_with fail
  go_ret
  exact ⟨rfl, chain I.bel hb9⟩

set_option maxRecDepth 100000 in
set_option maxHeartbeats 4000000 in
/-- The first is no text, the second fine. -/
theorem makes_2b (s n s' n' : Int) (t t' : List UInt8) (w : World) (hs : t.length ≤ 9223372036854775807) (hs' : t'.length ≤ 9223372036854775807) (hT : Tabs w) (h1 : chk s n t = 0) (h3 : s ≠ 3) (h2 : chk s' n' t' = 0) :
    Calls Tryd.prog 3 #[mkV s n t, mkV s' n' t'] w fun e w' => e = .returned (.bool true) ∧ Below w.heap.size w w' := by
  have g1 : chkT s n t = 5 := by simp [chkT, h1, h3]
  have g2 : firstT [(s, n, t), (s', n', t')] = 5 := by simp [firstT, g1]
  have g3 : ordE s n t s' n' t' = chk s' n' t' := by simp [ordE, h1]
  rw [h2] at g3
  obtain ⟨o, ho⟩ : ∃ o, ordV s n t s' n' t' = o := ⟨_, rfl⟩
  have HO := Lib.hid ho; have HC := Lib.hid h2; clear ho h2
  have H1 := Lib.hid h1; have G1 := Lib.hid g1; have G2 := Lib.hid g2; have G3 := Lib.hid g3; clear h1 g1 g2 g3
  have h3b : (s != 3) = true := by rw [bne_iff_ne]; exact h3
  clear h3
  go_enter Tryd.func3, Tryd.ntmps3
  go_wp2_with fail
  have I := Two.mk' w s n t s' n' t' hT
  refine (refValue_any s n _ t hs I.tabs).mono ?_; rw [H1.out]; rintro e w1 ⟨rfl, hb⟩
  replace I := I.keep hb
  clear hb
  obtain ⟨⟨a0, a1, a2, a3, a4⟩, ⟨b0, b1, b2, b3, b4⟩, hw, hTw⟩ := id I
  go_wp2_with fail
  refine (refValue_any s' n' _ t' hs' I.tabs).mono ?_; rw [HC.out]; rintro e w2 ⟨rfl, hb⟩
  replace I := I.keep hb
  clear hb
  obtain ⟨⟨a0, a1, a2, a3, a4⟩, ⟨b0, b1, b2, b3, b4⟩, hw, hTw⟩ := id I
  go_wp2_with fail
  have X := (Box.mk' w2 0 0 []).alloc (.cells #[.int .i64 0, .int .i64 0, .string ⟨[].toArray⟩] 23)
  have Y := Box.mk' (w2.alloc (.cells #[.int .i64 0, .int .i64 0, .string ⟨[].toArray⟩] 23)) 0 0 []
  rw [World.size_alloc] at Y
  have hy : Below w2.heap.size w2 ((w2.alloc (.cells #[.int .i64 0, .int .i64 0, .string ⟨[].toArray⟩] 23)).alloc (.cells #[.int .i64 0, .int .i64 0, .string ⟨[].toArray⟩] 23)) := by go_grown
  have hXH : w.heap.size + 1 < w2.heap.size := I.fB.lt
  replace I := I.keep hy
  clear hy
  refine (refOrder_any s n s' n' t t' _).mono ?_; rw [HO.out]; rintro e w3 ⟨rfl, hb⟩
  replace I := I.keep hb
  replace X := X.keep hb
  replace Y := Y.keep hb
  clear hb
  obtain ⟨q, hq⟩ : ∃ q, w2.heap.size = q := ⟨_, rfl⟩
  rw [hq] at X Y hXH
  rw [hq]
  clear hq
  obtain ⟨⟨a0, a1, a2, a3, a4⟩, ⟨b0, b1, b2, b3, b4⟩, hw, hTw⟩ := id I
  obtain ⟨x0, x1, x2, x3, x4⟩ := id X
  obtain ⟨y0, y1, y2, y3, y4⟩ := id Y
  go_wp2_with fail
  refine (order_all s n s' n' t t' _ hs hs' I.tabs).mono ?_; rw [G3.out, if_neg (by omega : ¬ (0 : Int) ≠ 0), HO.out]; rintro e w4 ⟨rfl, hb⟩
  replace I := I.keep hb
  replace X := X.keep hb
  replace Y := Y.keep hb
  clear hb
  obtain ⟨⟨a0, a1, a2, a3, a4⟩, ⟨b0, b1, b2, b3, b4⟩, hw, hTw⟩ := id I
  obtain ⟨x0, x1, x2, x3, x4⟩ := id X
  obtain ⟨y0, y1, y2, y3, y4⟩ := id Y
  go_wp2_with fail
  refine (length_bad s n t _ hs I.tabs (by rw [G1.out]; decide)).mono ?_; rw [G1.out]; rintro e w5 ⟨rfl, hb⟩
  replace I := I.keep hb
  replace X := X.keep hb
  replace Y := Y.keep hb
  clear hb
  obtain ⟨⟨a0, a1, a2, a3, a4⟩, ⟨b0, b1, b2, b3, b4⟩, hw, hTw⟩ := id I
  obtain ⟨x0, x1, x2, x3, x4⟩ := id X
  obtain ⟨y0, y1, y2, y3, y4⟩ := id Y
  go_wp2_with fail
  refine (joined_bad s n s' n' t t' _ hs hs' I.tabs (by rw [G2.out]; decide)).mono ?_; rw [G2.out]; rintro e w6 ⟨rfl, hb⟩
  replace I := I.keep hb
  replace X := X.keep hb
  replace Y := Y.keep hb
  clear hb
  obtain ⟨⟨a0, a1, a2, a3, a4⟩, ⟨b0, b1, b2, b3, b4⟩, hw, hTw⟩ := id I
  obtain ⟨x0, x1, x2, x3, x4⟩ := id X
  obtain ⟨y0, y1, y2, y3, y4⟩ := id Y
  go_wp2_with fail
  have R := Box.mk' w6 0 0 []
  have hr : Below w6.heap.size w6 (w6.alloc (.cells #[.int .i64 0, .int .i64 0, .string ⟨([] : List UInt8).toArray⟩] 23)) := by go_grown
  replace I := I.keep hr
  replace X := X.keep hr
  replace Y := Y.keep hr
  clear hr
  refine (turned_bad s n t _ hs I.tabs (by rw [G1.out]; decide)).mono ?_; rw [G1.out]; rintro e w7 ⟨rfl, hb⟩
  replace I := I.keep hb
  replace X := X.keep hb
  replace Y := Y.keep hb
  replace R := R.keep hb
  clear hb
  obtain ⟨r1, hr⟩ : ∃ r, w6.heap.size = r := ⟨_, rfl⟩
  rw [hr] at R
  rw [hr]
  clear hr
  obtain ⟨⟨a0, a1, a2, a3, a4⟩, ⟨b0, b1, b2, b3, b4⟩, hw, hTw⟩ := id I
  obtain ⟨x0, x1, x2, x3, x4⟩ := id X
  obtain ⟨y0, y1, y2, y3, y4⟩ := id Y
  obtain ⟨r0, r1, r2, r3, r4⟩ := id R
  go_wp2_with fail
  refine (oneInt_any o 0 o _ (by simp)).mono ?_; rintro e w' ⟨rfl, rfl⟩
  go_wp2_with fail
  refine (oneInt_any 0 5 0 _ (by simp)).mono ?_; rintro e w' ⟨rfl, rfl⟩
  go_wp2_with fail
  refine (oneValue_bad 5 0 0 [] _ (by decide)).mono ?_; rintro e v8 ⟨rfl, hb8⟩
  have hS : Below w7.heap.size w7 (w7.alloc (.cells #[.int .i64 0, .int .i64 0, .string ⟨([] : List UInt8).toArray⟩] 23)) := by go_grown
  obtain ⟨s0, s1, s2, s3, s4⟩ := (Box.mk' w7 0 0 []).keep hb8
  obtain ⟨y0, y1, y2, y3, y4⟩ := (Y.keep hS).keep hb8
  replace I := (I.keep hS).keep hb8
  go_wp2_with fail
  refine (oneValue_bad 5 0 0 [] _ (by decide)).mono ?_; rintro e v9 ⟨rfl, hb9⟩
  go_wp2_with fail
  go_ret
  exact ⟨rfl, chain I.bel hb9⟩

set_option maxRecDepth 100000 in
set_option maxHeartbeats 4000000 in
/-- The first is a text, the second wrong. -/
theorem makes_3a (s' n' : Int) (t t' : List UInt8) (w : World) (hs' : t'.length ≤ 9223372036854775807) (hT : Tabs w) (h1 : chk 3 0 t = 0) (h2 : chk s' n' t' ≠ 0) :
    Calls Tryd.prog 3 #[mkV 3 0 t, mkV s' n' t'] w fun e w' => e = .returned (.bool true) ∧ Below w.heap.size w w' := by
  have g1 : chkT 3 0 t = 0 := by simp [chkT, h1]
  obtain ⟨-, -, hl, rs, hr⟩ := chkT_zero g1
  have hs : t.length ≤ 9223372036854775807 := by omega
  have gb : chkT s' n' t' = chk s' n' t' := by simp [chkT, h2]
  have g2 : firstT [(3, 0, t), (s', n', t')] = chk s' n' t' := by simp only [firstT]; rw [if_neg (by omega), gb]; split <;> omega
  clear gb
  obtain ⟨u, hu⟩ : ∃ u, rs.reverse.flatMap enc = u := ⟨_, rfl⟩
  have HR := Lib.hid hr; have HU := Lib.hid hu; clear hr hu
  have g3 : ordE 3 0 t s' n' t' = chk s' n' t' := by simp [ordE, h1]
  obtain ⟨c, hc⟩ : ∃ c, chk s' n' t' = c := ⟨_, rfl⟩
  rw [hc] at h2 g3 g2
  have hcb : (c != 0) = true := by rw [bne_iff_ne]; exact h2
  have hce : (c == 0) = false := by rw [beq_eq_false_iff_ne]; exact h2
  have HC := Lib.hid hc; have HN := Lib.hid h2; clear hc h2
  have H1 := Lib.hid h1; have G1 := Lib.hid g1; have G2 := Lib.hid g2; have G3 := Lib.hid g3; clear h1 g1 g2 g3
  go_enter Tryd.func3, Tryd.ntmps3
  go_wp2_with fail
  have I := Two.mk' w 3 0 t s' n' t' hT
  refine (refValue_any 3 0 _ t hs I.tabs).mono ?_; rw [H1.out]; rintro e w1 ⟨rfl, hb⟩
  replace I := I.keep hb
  clear hb
  obtain ⟨⟨a0, a1, a2, a3, a4⟩, ⟨b0, b1, b2, b3, b4⟩, hw, hTw⟩ := id I
  go_wp2_with fail
  refine (refValue_any s' n' _ t' hs' I.tabs).mono ?_; rw [HC.out]; rintro e w2 ⟨rfl, hb⟩
  replace I := I.keep hb
  clear hb
  obtain ⟨⟨a0, a1, a2, a3, a4⟩, ⟨b0, b1, b2, b3, b4⟩, hw, hTw⟩ := id I
  go_wp2_with fail
  refine (refValue_any s' n' _ t' hs' I.tabs).mono ?_; rw [HC.out]; rintro e w3 ⟨rfl, hb⟩
  replace I := I.keep hb
  clear hb
  obtain ⟨⟨a0, a1, a2, a3, a4⟩, ⟨b0, b1, b2, b3, b4⟩, hw, hTw⟩ := id I
  go_wp2_with fail
  have X := (Box.mk' w3 0 0 []).alloc (.cells #[.int .i64 0, .int .i64 0, .string ⟨[].toArray⟩] 23)
  have Y := Box.mk' (w3.alloc (.cells #[.int .i64 0, .int .i64 0, .string ⟨[].toArray⟩] 23)) 0 0 []
  rw [World.size_alloc] at Y
  have hy : Below w3.heap.size w3 ((w3.alloc (.cells #[.int .i64 0, .int .i64 0, .string ⟨[].toArray⟩] 23)).alloc (.cells #[.int .i64 0, .int .i64 0, .string ⟨[].toArray⟩] 23)) := by go_grown
  have hXH : w.heap.size + 1 < w3.heap.size := I.fB.lt
  replace I := I.keep hy
  clear hy
  generalize hv : ((w3.alloc (.cells #[.int .i64 0, .int .i64 0, .string ⟨[].toArray⟩] 23)).alloc (.cells #[.int .i64 0, .int .i64 0, .string ⟨[].toArray⟩] 23)) = v at I X Y ⊢
  clear hv
  obtain ⟨q, hq⟩ : ∃ q, w3.heap.size = q := ⟨_, rfl⟩
  rw [hq] at X Y hXH
  rw [hq]
  clear hq
  obtain ⟨⟨a0, a1, a2, a3, a4⟩, ⟨b0, b1, b2, b3, b4⟩, hw, hTw⟩ := id I
  obtain ⟨x0, x1, x2, x3, x4⟩ := id X
  obtain ⟨y0, y1, y2, y3, y4⟩ := id Y
  have hXw : w.heap.size ≤ q := by omega
  have hne : ¬ w.heap.size = q + 1 := by omega
  have hne' : ¬ q + 1 = w.heap.size := by omega
  have I4 := I.keep ((Below.refl v.heap.size v).drew)
  have X4 := X.keep ((Below.refl v.heap.size v).drew); have Y4 := Y.keep ((Below.refl v.heap.size v).drew)
  clear b0 b1 b2 b3 x0 x1 x2 x3 y0 y1 y2 y3
  go_region_held3 (fun w' => w'.cell? ⟨w.heap.size, 2, none⟩ = some (.string ⟨t.toArray⟩))
    (first | exact I4.fA.c2 | exact I5.fA.c2 | exact I6.fA.c2 | go_keep)
    (first
      | (go_at_call 15; refine (refLength_any t rs _ (by first | exact I4.tabs | exact I6.tabs) hl HR.out).mono ?_; rintro e v5 ⟨rfl, hb5⟩; have I5 := Two.keep (by first | exact I4 | exact I6) hb5; have X5 := Box.keep (by first | exact X4 | exact X6) hb5; have Y5 := Box.keep (by first | exact Y4 | exact Y6) hb5; obtain ⟨m0, m1, m2, m3, m4⟩ := id Y5)
      | (go_at_call 16; refine (refTurned_any t rs _ (by first | exact I4.tabs | exact I5.tabs) hl HR.out).mono ?_; rw [HU.out]; rintro e v6 ⟨rfl, hb6⟩; have I6 := Two.keep (by first | exact I4 | exact I5) hb6; have X6 := Box.keep (by first | exact X4 | exact X5) hb6; have Y6 := Box.keep (by first | exact Y4 | exact Y5) hb6; obtain ⟨m0, m1, m2, m3, m4⟩ := id Y6))
  have hbs : Below w.heap.size w (((v6.setCell ⟨q + 1, 0, none⟩ (.int .i64 3)).setCell ⟨q + 1, 1, none⟩ (.int .i64 0)).setCell ⟨q + 1, 2, none⟩ (.string ⟨u.toArray⟩)) :=
    ((I6.bel.setCell (by show _ ≤ q + 1; omega) _).setCell (by show _ ≤ q + 1; omega) _).setCell (by show _ ≤ q + 1; omega) _
  replace I : Two w 3 0 t s' n' t' (((v6.setCell ⟨q + 1, 0, none⟩ (.int .i64 3)).setCell ⟨q + 1, 1, none⟩ (.int .i64 0)).setCell ⟨q + 1, 2, none⟩ (.string ⟨u.toArray⟩)) := ⟨I6.fA.far3 (by omega) _ _ _, I6.fB.far3 (by omega) _ _ _, hbs, hT.below hbs⟩
  replace X := X6.far3 (c := q + 1) (by omega) (.int .i64 3) (.int .i64 0) (.string ⟨u.toArray⟩)
  replace Y := Y6.store 3 0 u
  generalize hv7 : (((v6.setCell ⟨q + 1, 0, none⟩ (.int .i64 3)).setCell ⟨q + 1, 1, none⟩ (.int .i64 0)).setCell ⟨q + 1, 2, none⟩ (.string ⟨u.toArray⟩)) = v7 at I X Y ⊢
  clear hv7 hbs I4 I5 I6 X4 X5 X6 Y4 Y5 Y6 m0 m1 m2 m3 m4 hb5 hb6
  obtain ⟨⟨a0, a1, a2, a3, a4⟩, ⟨b0, b1, b2, b3, b4⟩, hw, hTw⟩ := id I
  obtain ⟨x0, x1, x2, x3, x4⟩ := id X
  obtain ⟨y0, y1, y2, y3, y4⟩ := id Y
  go_wp2_with fail
  refine (order_all 3 0 s' n' t t' _ hs hs' I.tabs).mono ?_; rw [G3.out, if_pos HN.out]; rintro e w4 ⟨rfl, hb⟩
  replace I := I.keep hb
  replace X := X.keep hb
  replace Y := Y.keep hb
  clear hb
  obtain ⟨⟨a0, a1, a2, a3, a4⟩, ⟨b0, b1, b2, b3, b4⟩, hw, hTw⟩ := id I
  obtain ⟨x0, x1, x2, x3, x4⟩ := id X
  obtain ⟨y0, y1, y2, y3, y4⟩ := id Y
  go_wp2_with fail
  refine (length_ok t rs _ I.tabs G1.out HR.out).mono ?_; rintro e w5 ⟨rfl, hb⟩
  replace I := I.keep hb
  replace X := X.keep hb
  replace Y := Y.keep hb
  clear hb
  obtain ⟨⟨a0, a1, a2, a3, a4⟩, ⟨b0, b1, b2, b3, b4⟩, hw, hTw⟩ := id I
  obtain ⟨x0, x1, x2, x3, x4⟩ := id X
  obtain ⟨y0, y1, y2, y3, y4⟩ := id Y
  go_wp2_with fail
  refine (joined_bad 3 0 s' n' t t' _ hs hs' I.tabs (by rw [G2.out]; exact HN.out)).mono ?_; rw [G2.out]; rintro e w6 ⟨rfl, hb⟩
  replace I := I.keep hb
  replace X := X.keep hb
  replace Y := Y.keep hb
  clear hb
  obtain ⟨⟨a0, a1, a2, a3, a4⟩, ⟨b0, b1, b2, b3, b4⟩, hw, hTw⟩ := id I
  obtain ⟨x0, x1, x2, x3, x4⟩ := id X
  obtain ⟨y0, y1, y2, y3, y4⟩ := id Y
  go_wp2_with fail
  have R := Box.mk' w6 0 0 []
  have hr : Below w6.heap.size w6 (w6.alloc (.cells #[.int .i64 0, .int .i64 0, .string ⟨([] : List UInt8).toArray⟩] 23)) := by go_grown
  replace I := I.keep hr
  replace X := X.keep hr
  replace Y := Y.keep hr
  clear hr
  refine (turned_ok t rs _ I.tabs G1.out HR.out).mono ?_; rw [HU.out]; rintro e w7 ⟨rfl, hb⟩
  replace I := I.keep hb
  replace X := X.keep hb
  replace Y := Y.keep hb
  replace R := R.keep hb
  clear hb
  obtain ⟨r1, hr⟩ : ∃ r, w6.heap.size = r := ⟨_, rfl⟩
  rw [hr] at R
  rw [hr]
  clear hr
  obtain ⟨⟨a0, a1, a2, a3, a4⟩, ⟨b0, b1, b2, b3, b4⟩, hw, hTw⟩ := id I
  obtain ⟨x0, x1, x2, x3, x4⟩ := id X
  obtain ⟨y0, y1, y2, y3, y4⟩ := id Y
  obtain ⟨r0, r1, r2, r3, r4⟩ := id R
  go_wp2_with fail
  refine (oneInt_any 0 c 0 _ (by simp)).mono ?_; rintro e w' ⟨rfl, rfl⟩
  go_wp2_with fail
  refine (oneInt_any _ 0 _ _ (by simp)).mono ?_; rintro e w' ⟨rfl, rfl⟩
  go_wp2_with fail
  refine (oneValue_bad c 0 0 [] _ HN.out).mono ?_; rintro e v8 ⟨rfl, hb8⟩
  have hS : Below w7.heap.size w7 (w7.alloc (.cells #[.int .i64 3, .int .i64 0, .string ⟨(u : List UInt8).toArray⟩] 23)) := by go_grown
  obtain ⟨s0, s1, s2, s3, s4⟩ := (Box.mk' w7 3 0 u).keep hb8
  obtain ⟨y0, y1, y2, y3, y4⟩ := (Y.keep hS).keep hb8
  replace I := (I.keep hS).keep hb8
  go_wp2_with fail
  refine (oneValue_ok 3 0 u _).mono ?_; rintro e v9 ⟨rfl, hb9⟩
  go_wp2_with fail
  go_ret
  exact ⟨rfl, chain I.bel hb9⟩

set_option maxRecDepth 100000 in
set_option maxHeartbeats 4000000 in
/-- The first is a text, the second none. -/
theorem makes_3b (s' n' : Int) (t t' : List UInt8) (w : World) (hs' : t'.length ≤ 9223372036854775807) (hT : Tabs w) (h1 : chk 3 0 t = 0) (h2 : chk s' n' t' = 0) (h4 : s' ≠ 3) :
    Calls Tryd.prog 3 #[mkV 3 0 t, mkV s' n' t'] w fun e w' => e = .returned (.bool true) ∧ Below w.heap.size w w' := by
  have g1 : chkT 3 0 t = 0 := by simp [chkT, h1]
  obtain ⟨-, -, hl, rs, hr⟩ := chkT_zero g1
  have hs : t.length ≤ 9223372036854775807 := by omega
  have gb : chkT s' n' t' = 5 := by simp [chkT, h2, h4]
  have g2 : firstT [(3, 0, t), (s', n', t')] = 5 := by simp only [firstT]; rw [if_neg (by omega), gb]; split <;> omega
  clear gb
  obtain ⟨u, hu⟩ : ∃ u, rs.reverse.flatMap enc = u := ⟨_, rfl⟩
  have HR := Lib.hid hr; have HU := Lib.hid hu; clear hr hu
  have g3 : ordE 3 0 t s' n' t' = chk s' n' t' := by simp [ordE, h1]
  rw [h2] at g3
  obtain ⟨o, ho⟩ : ∃ o, ordV 3 0 t s' n' t' = o := ⟨_, rfl⟩
  have HO := Lib.hid ho; have HC := Lib.hid h2; clear ho h2
  have H1 := Lib.hid h1; have G1 := Lib.hid g1; have G2 := Lib.hid g2; have G3 := Lib.hid g3; clear h1 g1 g2 g3
  have h4b : (s' != 3) = true := by rw [bne_iff_ne]; exact h4
  clear h4
  go_enter Tryd.func3, Tryd.ntmps3
  go_wp2_with fail
  have I := Two.mk' w 3 0 t s' n' t' hT
  refine (refValue_any 3 0 _ t hs I.tabs).mono ?_; rw [H1.out]; rintro e w1 ⟨rfl, hb⟩
  replace I := I.keep hb
  clear hb
  obtain ⟨⟨a0, a1, a2, a3, a4⟩, ⟨b0, b1, b2, b3, b4⟩, hw, hTw⟩ := id I
  go_wp2_with fail
  refine (refValue_any s' n' _ t' hs' I.tabs).mono ?_; rw [HC.out]; rintro e w2 ⟨rfl, hb⟩
  replace I := I.keep hb
  clear hb
  obtain ⟨⟨a0, a1, a2, a3, a4⟩, ⟨b0, b1, b2, b3, b4⟩, hw, hTw⟩ := id I
  go_wp2_with fail
  refine (refValue_any s' n' _ t' hs' I.tabs).mono ?_; rw [HC.out]; rintro e w3 ⟨rfl, hb⟩
  replace I := I.keep hb
  clear hb
  obtain ⟨⟨a0, a1, a2, a3, a4⟩, ⟨b0, b1, b2, b3, b4⟩, hw, hTw⟩ := id I
  go_wp2_with fail
  have X := (Box.mk' w3 0 0 []).alloc (.cells #[.int .i64 0, .int .i64 0, .string ⟨[].toArray⟩] 23)
  have Y := Box.mk' (w3.alloc (.cells #[.int .i64 0, .int .i64 0, .string ⟨[].toArray⟩] 23)) 0 0 []
  rw [World.size_alloc] at Y
  have hy : Below w3.heap.size w3 ((w3.alloc (.cells #[.int .i64 0, .int .i64 0, .string ⟨[].toArray⟩] 23)).alloc (.cells #[.int .i64 0, .int .i64 0, .string ⟨[].toArray⟩] 23)) := by go_grown
  have hXH : w.heap.size + 1 < w3.heap.size := I.fB.lt
  replace I := I.keep hy
  clear hy
  refine (refOrder_any 3 0 s' n' t t' _).mono ?_; rw [HO.out]; rintro e w4 ⟨rfl, hb⟩
  replace I := I.keep hb
  replace X := X.keep hb
  replace Y := Y.keep hb
  clear hb
  obtain ⟨q, hq⟩ : ∃ q, w3.heap.size = q := ⟨_, rfl⟩
  rw [hq] at X Y hXH
  rw [hq]
  clear hq
  obtain ⟨⟨a0, a1, a2, a3, a4⟩, ⟨b0, b1, b2, b3, b4⟩, hw, hTw⟩ := id I
  obtain ⟨x0, x1, x2, x3, x4⟩ := id X
  obtain ⟨y0, y1, y2, y3, y4⟩ := id Y
  go_wp2_with fail
  have hXw : w.heap.size ≤ q := by omega
  have hne : ¬ w.heap.size = q + 1 := by omega
  have hne' : ¬ q + 1 = w.heap.size := by omega
  have I4 := I.keep ((Below.refl w4.heap.size w4).drew)
  have X4 := X.keep ((Below.refl w4.heap.size w4).drew); have Y4 := Y.keep ((Below.refl w4.heap.size w4).drew)
  clear b0 b1 b2 b3 x0 x1 x2 x3 y0 y1 y2 y3
  go_region_held3 (fun w' => w'.cell? ⟨w.heap.size, 2, none⟩ = some (.string ⟨t.toArray⟩))
    (first | exact I4.fA.c2 | exact I5.fA.c2 | exact I6.fA.c2 | go_keep)
    (first
      | (go_at_call 15; refine (refLength_any t rs _ (by first | exact I4.tabs | exact I6.tabs) hl HR.out).mono ?_; rintro e v5 ⟨rfl, hb5⟩; have I5 := Two.keep (by first | exact I4 | exact I6) hb5; have X5 := Box.keep (by first | exact X4 | exact X6) hb5; have Y5 := Box.keep (by first | exact Y4 | exact Y6) hb5; obtain ⟨m0, m1, m2, m3, m4⟩ := id Y5)
      | (go_at_call 16; refine (refTurned_any t rs _ (by first | exact I4.tabs | exact I5.tabs) hl HR.out).mono ?_; rw [HU.out]; rintro e v6 ⟨rfl, hb6⟩; have I6 := Two.keep (by first | exact I4 | exact I5) hb6; have X6 := Box.keep (by first | exact X4 | exact X5) hb6; have Y6 := Box.keep (by first | exact Y4 | exact Y5) hb6; obtain ⟨m0, m1, m2, m3, m4⟩ := id Y6))
  have hbs : Below w.heap.size w (((v6.setCell ⟨q + 1, 0, none⟩ (.int .i64 3)).setCell ⟨q + 1, 1, none⟩ (.int .i64 0)).setCell ⟨q + 1, 2, none⟩ (.string ⟨u.toArray⟩)) :=
    ((I6.bel.setCell (by show _ ≤ q + 1; omega) _).setCell (by show _ ≤ q + 1; omega) _).setCell (by show _ ≤ q + 1; omega) _
  replace I : Two w 3 0 t s' n' t' (((v6.setCell ⟨q + 1, 0, none⟩ (.int .i64 3)).setCell ⟨q + 1, 1, none⟩ (.int .i64 0)).setCell ⟨q + 1, 2, none⟩ (.string ⟨u.toArray⟩)) := ⟨I6.fA.far3 (by omega) _ _ _, I6.fB.far3 (by omega) _ _ _, hbs, hT.below hbs⟩
  replace X := X6.far3 (c := q + 1) (by omega) (.int .i64 3) (.int .i64 0) (.string ⟨u.toArray⟩)
  replace Y := Y6.store 3 0 u
  generalize hv7 : (((v6.setCell ⟨q + 1, 0, none⟩ (.int .i64 3)).setCell ⟨q + 1, 1, none⟩ (.int .i64 0)).setCell ⟨q + 1, 2, none⟩ (.string ⟨u.toArray⟩)) = v7 at I X Y ⊢
  clear hv7 hbs I4 I5 I6 X4 X5 X6 Y4 Y5 Y6 m0 m1 m2 m3 m4 hb5 hb6
  obtain ⟨⟨a0, a1, a2, a3, a4⟩, ⟨b0, b1, b2, b3, b4⟩, hw, hTw⟩ := id I
  obtain ⟨x0, x1, x2, x3, x4⟩ := id X
  obtain ⟨y0, y1, y2, y3, y4⟩ := id Y
  go_wp2_with fail
  refine (order_all 3 0 s' n' t t' _ hs hs' I.tabs).mono ?_; rw [G3.out, if_neg (by omega : ¬ (0 : Int) ≠ 0), HO.out]; rintro e w5 ⟨rfl, hb⟩
  replace I := I.keep hb
  replace X := X.keep hb
  replace Y := Y.keep hb
  clear hb
  obtain ⟨⟨a0, a1, a2, a3, a4⟩, ⟨b0, b1, b2, b3, b4⟩, hw, hTw⟩ := id I
  obtain ⟨x0, x1, x2, x3, x4⟩ := id X
  obtain ⟨y0, y1, y2, y3, y4⟩ := id Y
  go_wp2_with fail
  refine (length_ok t rs _ I.tabs G1.out HR.out).mono ?_; rintro e w6 ⟨rfl, hb⟩
  replace I := I.keep hb
  replace X := X.keep hb
  replace Y := Y.keep hb
  clear hb
  obtain ⟨⟨a0, a1, a2, a3, a4⟩, ⟨b0, b1, b2, b3, b4⟩, hw, hTw⟩ := id I
  obtain ⟨x0, x1, x2, x3, x4⟩ := id X
  obtain ⟨y0, y1, y2, y3, y4⟩ := id Y
  go_wp2_with fail
  refine (joined_bad 3 0 s' n' t t' _ hs hs' I.tabs (by rw [G2.out]; decide)).mono ?_; rw [G2.out]; rintro e w7 ⟨rfl, hb⟩
  replace I := I.keep hb
  replace X := X.keep hb
  replace Y := Y.keep hb
  clear hb
  obtain ⟨⟨a0, a1, a2, a3, a4⟩, ⟨b0, b1, b2, b3, b4⟩, hw, hTw⟩ := id I
  obtain ⟨x0, x1, x2, x3, x4⟩ := id X
  obtain ⟨y0, y1, y2, y3, y4⟩ := id Y
  go_wp2_with fail
  have R := Box.mk' w7 0 0 []
  have hr : Below w7.heap.size w7 (w7.alloc (.cells #[.int .i64 0, .int .i64 0, .string ⟨([] : List UInt8).toArray⟩] 23)) := by go_grown
  replace I := I.keep hr
  replace X := X.keep hr
  replace Y := Y.keep hr
  clear hr
  refine (turned_ok t rs _ I.tabs G1.out HR.out).mono ?_; rw [HU.out]; rintro e w8 ⟨rfl, hb⟩
  replace I := I.keep hb
  replace X := X.keep hb
  replace Y := Y.keep hb
  replace R := R.keep hb
  clear hb
  obtain ⟨r1, hr⟩ : ∃ r, w7.heap.size = r := ⟨_, rfl⟩
  rw [hr] at R
  rw [hr]
  clear hr
  obtain ⟨⟨a0, a1, a2, a3, a4⟩, ⟨b0, b1, b2, b3, b4⟩, hw, hTw⟩ := id I
  obtain ⟨x0, x1, x2, x3, x4⟩ := id X
  obtain ⟨y0, y1, y2, y3, y4⟩ := id Y
  obtain ⟨r0, r1, r2, r3, r4⟩ := id R
  go_wp2_with fail
  refine (oneInt_any o 0 o _ (by simp)).mono ?_; rintro e w' ⟨rfl, rfl⟩
  go_wp2_with fail
  refine (oneInt_any _ 0 _ _ (by simp)).mono ?_; rintro e w' ⟨rfl, rfl⟩
  go_wp2_with fail
  refine (oneValue_bad 5 0 0 [] _ (by decide)).mono ?_; rintro e v8 ⟨rfl, hb8⟩
  have hS : Below w8.heap.size w8 (w8.alloc (.cells #[.int .i64 3, .int .i64 0, .string ⟨(u : List UInt8).toArray⟩] 23)) := by go_grown
  obtain ⟨s0, s1, s2, s3, s4⟩ := (Box.mk' w8 3 0 u).keep hb8
  obtain ⟨y0, y1, y2, y3, y4⟩ := (Y.keep hS).keep hb8
  replace I := (I.keep hS).keep hb8
  go_wp2_with fail
  refine (oneValue_ok 3 0 u _).mono ?_; rintro e v9 ⟨rfl, hb9⟩
  go_wp2_with fail
  go_ret
  exact ⟨rfl, chain I.bel hb9⟩

end Go.Proofs.YtcacembpegoghaaDoor
