/-
  The law TypesReads returns true whatever text and place are handed in.
-/
import Derived.Test.YtcacembpegoghaaDoorRdV
import Derived.Test.YtcacembpegoghaaDoorTySame
import Derived.Test.YtcacembpegoghaaDoorTyM
namespace Go.Proofs.YtcacembpegoghaaDoor
open Go.RowKit Go.Proofs

set_option maxRecDepth 100000
theorem begin_fit (l : Str) (p : Nat) (hl : l.length ≤ maxLen) : Fit (rdBegin l p).1 := by
  have h0 : Fit zeroTy := fit_no
  have h1 := rdOne_fit (l := l) hl (l.length + 1) p
  unfold rdBegin
  split
  · exact h0
  · split
    · exact h0
    · rename_i hr
      rw [hr] at h1
      split
      · exact h1
      · exact h0
theorem parse_fit (l : Str) (hl : l.length ≤ maxLen) : Fit (rdParse l).1 := by
  have h0 : Fit zeroTy := fit_no
  unfold rdParse
  split
  · exact h0
  · exact begin_fit l 0 hl
set_option maxHeartbeats 8000000 in
theorem reads_any (l : Str) (at_ : Int) (w : World) (hS : Sorts w) (hl : l.length ≤ maxLen) :
    Calls Tryd.prog 5 #[.string ⟨l.toArray⟩, .int .i64 at_] w fun e w' => e = .returned (.bool true) ∧ Below w.heap.size w w' := by
  have hl' : l.length ≤ 9223372036854775807 := hl
  obtain ⟨p, hp, hpc⟩ : ∃ p : Nat, p ≤ l.length ∧ (p : Int) = max 0 (min at_ l.length) := ⟨(max 0 (min at_ l.length)).toNat, by omega, by omega⟩
  have hP := fun w hS => Parse_any l w hS hl'
  have hQ := fun w => ParseType_any l w hl'
  have hBg := fun w hS => Begin_any l at_ p hp hpc w hS hl'
  have hBt := fun w => BeginType_any l at_ p hp hpc w hl'
  have hfit := parse_fit l hl
  have hfit' := begin_fit l p hl
  generalize rdParse l = RP at hP hQ hfit
  generalize rdBegin l p = RB at hBg hBt hfit'
  obtain ⟨t, c, a⟩ := RP
  obtain ⟨t', n', c', a'⟩ := RB
  simp only at hP hQ hBg hBt hfit hfit'
  clear hpc
  have hmb0 : Below w.heap.size w w := Below.refl _ _
  go_enter Tryd.func5, Tryd.ntmps5
  go_wp2_with fail
  refine (hP w hS).mono ?_
  rintro e w1 ⟨hb, v, rfl, hT⟩
  have hm1 := chain hmb0 hb
  have H1 := Lib.hid hT.is
  obtain ⟨lv, kv, rfl, k1, k2⟩ := hT
  obtain ⟨A1, p1, rfl, -, -⟩ := k1
  obtain ⟨B1, q1, rfl, -, -⟩ := k2
  clear hb hmb0
  rename_i Kx hkx Ky hky
  have HKX := Lib.hid hkx
  clear hkx
  go_wp2_with fail
  have hb : Below w1.heap.size w1 ((w1.alloc (.cells #[.int .i64 t.kind, .int .i64 t.sort, .string ⟨t.name.toArray⟩, .slice A1 t.labels.length p1, .slice B1 t.kids.length q1] 51)).alloc (.cells #[.int .i64 c, .int .i64 (a : Int)] 44)) := ((Below.refl _ _).alloc (Nat.le_refl _) _).alloc (by simp) _
  have V1 : VBox ((w1.alloc (.cells #[.int .i64 t.kind, .int .i64 t.sort, .string ⟨t.name.toArray⟩, .slice A1 t.labels.length p1, .slice B1 t.kids.length q1] 51)).alloc (.cells #[.int .i64 c, .int .i64 (a : Int)] 44)) w1.heap.size t (.slice A1 t.labels.length p1) (.slice B1 t.kids.length q1) := ⟨by simp [go_sem], by simp [go_sem], by simp [go_sem], by simp [go_sem], by simp [go_sem], fun j => by simp [go_sem], by simp; omega⟩
  have g1 : (((w1.alloc (.cells #[.int .i64 t.kind, .int .i64 t.sort, .string ⟨t.name.toArray⟩, .slice A1 t.labels.length p1, .slice B1 t.kids.length q1] 51)).alloc (.cells #[.int .i64 c, .int .i64 (a : Int)] 44))).cell? ⟨w1.heap.size + 1, 0, none⟩ = some (.int .i64 c) := by simp [go_sem]
  have h1 : (((w1.alloc (.cells #[.int .i64 t.kind, .int .i64 t.sort, .string ⟨t.name.toArray⟩, .slice A1 t.labels.length p1, .slice B1 t.kids.length q1] 51)).alloc (.cells #[.int .i64 c, .int .i64 (a : Int)] 44))).cell? ⟨w1.heap.size + 1, 1, none⟩ = some (.int .i64 (a : Int)) := by simp [go_sem]
  have hmb1 := chain hm1 hb
  replace H1 := Lib.hid (H1.out.keep hb)
  generalize ((w1.alloc (.cells #[.int .i64 t.kind, .int .i64 t.sort, .string ⟨t.name.toArray⟩, .slice A1 t.labels.length p1, .slice B1 t.kids.length q1] 51)).alloc (.cells #[.int .i64 c, .int .i64 (a : Int)] 44)) = W1 at *
  clear hb hm1
  generalize w1.heap.size = T1 at *
  clear w1
  refine HKX.out _ _ ?_
  clear HKX
  go_wp2_with fail
  refine (hQ W1).mono ?_
  rintro e w2 ⟨hb, v, rfl, hT⟩
  have hm2 := chain hmb1 hb
  replace V1 := V1.keep hb V1.lt
  replace g1 := cell_keep g1 hb
  replace h1 := cell_keep h1 hb
  replace H1 := Lib.hid (H1.out.keep hb)
  have H2 := Lib.hid hT.is
  obtain ⟨lv, kv, rfl, k1, k2⟩ := hT
  obtain ⟨A2, p2, rfl, -, -⟩ := k1
  obtain ⟨B2, q2, rfl, -, -⟩ := k2
  clear hb hmb1
  rename_i Kx hkx Ky hky
  have HKX := Lib.hid hkx
  clear hkx
  go_wp2_with fail
  have hb : Below w2.heap.size w2 ((w2.alloc (.cells #[.int .i64 t.kind, .int .i64 t.sort, .string ⟨t.name.toArray⟩, .slice A2 t.labels.length p2, .slice B2 t.kids.length q2] 51)).alloc (.cells #[.int .i64 c, .int .i64 (a : Int)] 44)) := ((Below.refl _ _).alloc (Nat.le_refl _) _).alloc (by simp) _
  have V2 : VBox ((w2.alloc (.cells #[.int .i64 t.kind, .int .i64 t.sort, .string ⟨t.name.toArray⟩, .slice A2 t.labels.length p2, .slice B2 t.kids.length q2] 51)).alloc (.cells #[.int .i64 c, .int .i64 (a : Int)] 44)) w2.heap.size t (.slice A2 t.labels.length p2) (.slice B2 t.kids.length q2) := ⟨by simp [go_sem], by simp [go_sem], by simp [go_sem], by simp [go_sem], by simp [go_sem], fun j => by simp [go_sem], by simp; omega⟩
  have g2 : (((w2.alloc (.cells #[.int .i64 t.kind, .int .i64 t.sort, .string ⟨t.name.toArray⟩, .slice A2 t.labels.length p2, .slice B2 t.kids.length q2] 51)).alloc (.cells #[.int .i64 c, .int .i64 (a : Int)] 44))).cell? ⟨w2.heap.size + 1, 0, none⟩ = some (.int .i64 c) := by simp [go_sem]
  have h2 : (((w2.alloc (.cells #[.int .i64 t.kind, .int .i64 t.sort, .string ⟨t.name.toArray⟩, .slice A2 t.labels.length p2, .slice B2 t.kids.length q2] 51)).alloc (.cells #[.int .i64 c, .int .i64 (a : Int)] 44))).cell? ⟨w2.heap.size + 1, 1, none⟩ = some (.int .i64 (a : Int)) := by simp [go_sem]
  have hmb2 := chain hm2 hb
  replace V1 := V1.keep hb V1.lt
  replace g1 := cell_keep g1 hb
  replace h1 := cell_keep h1 hb
  replace H1 := Lib.hid (H1.out.keep hb)
  replace H2 := Lib.hid (H2.out.keep hb)
  generalize ((w2.alloc (.cells #[.int .i64 t.kind, .int .i64 t.sort, .string ⟨t.name.toArray⟩, .slice A2 t.labels.length p2, .slice B2 t.kids.length q2] 51)).alloc (.cells #[.int .i64 c, .int .i64 (a : Int)] 44)) = W2 at *
  clear hb hm2
  generalize w2.heap.size = T2 at *
  clear w2
  refine HKX.out _ _ ?_
  clear HKX
  go_wp2_with fail
  refine (hBg W2 (hS.keep hmb2)).mono ?_
  rintro e w3 ⟨hb, v, rfl, hT⟩
  have hm3 := chain hmb2 hb
  replace V1 := V1.keep hb V1.lt
  replace g1 := cell_keep g1 hb
  replace h1 := cell_keep h1 hb
  replace H1 := Lib.hid (H1.out.keep hb)
  replace V2 := V2.keep hb V2.lt
  replace g2 := cell_keep g2 hb
  replace h2 := cell_keep h2 hb
  replace H2 := Lib.hid (H2.out.keep hb)
  have H3 := Lib.hid hT.is
  obtain ⟨lv, kv, rfl, k1, k2⟩ := hT
  obtain ⟨A3, p3, rfl, -, -⟩ := k1
  obtain ⟨B3, q3, rfl, -, -⟩ := k2
  clear hb hmb2
  rename_i Kx hkx Ky hky
  have HKX := Lib.hid hkx
  clear hkx
  go_wp2_with fail
  have hb : Below w3.heap.size w3 ((w3.alloc (.cells #[.int .i64 t'.kind, .int .i64 t'.sort, .string ⟨t'.name.toArray⟩, .slice A3 t'.labels.length p3, .slice B3 t'.kids.length q3] 51)).alloc (.cells #[.int .i64 c', .int .i64 (a' : Int)] 44)) := ((Below.refl _ _).alloc (Nat.le_refl _) _).alloc (by simp) _
  have V3 : VBox ((w3.alloc (.cells #[.int .i64 t'.kind, .int .i64 t'.sort, .string ⟨t'.name.toArray⟩, .slice A3 t'.labels.length p3, .slice B3 t'.kids.length q3] 51)).alloc (.cells #[.int .i64 c', .int .i64 (a' : Int)] 44)) w3.heap.size t' (.slice A3 t'.labels.length p3) (.slice B3 t'.kids.length q3) := ⟨by simp [go_sem], by simp [go_sem], by simp [go_sem], by simp [go_sem], by simp [go_sem], fun j => by simp [go_sem], by simp; omega⟩
  have g3 : (((w3.alloc (.cells #[.int .i64 t'.kind, .int .i64 t'.sort, .string ⟨t'.name.toArray⟩, .slice A3 t'.labels.length p3, .slice B3 t'.kids.length q3] 51)).alloc (.cells #[.int .i64 c', .int .i64 (a' : Int)] 44))).cell? ⟨w3.heap.size + 1, 0, none⟩ = some (.int .i64 c') := by simp [go_sem]
  have h3 : (((w3.alloc (.cells #[.int .i64 t'.kind, .int .i64 t'.sort, .string ⟨t'.name.toArray⟩, .slice A3 t'.labels.length p3, .slice B3 t'.kids.length q3] 51)).alloc (.cells #[.int .i64 c', .int .i64 (a' : Int)] 44))).cell? ⟨w3.heap.size + 1, 1, none⟩ = some (.int .i64 (a' : Int)) := by simp [go_sem]
  have hmb3 := chain hm3 hb
  replace V1 := V1.keep hb V1.lt
  replace g1 := cell_keep g1 hb
  replace h1 := cell_keep h1 hb
  replace H1 := Lib.hid (H1.out.keep hb)
  replace V2 := V2.keep hb V2.lt
  replace g2 := cell_keep g2 hb
  replace h2 := cell_keep h2 hb
  replace H2 := Lib.hid (H2.out.keep hb)
  replace H3 := Lib.hid (H3.out.keep hb)
  generalize ((w3.alloc (.cells #[.int .i64 t'.kind, .int .i64 t'.sort, .string ⟨t'.name.toArray⟩, .slice A3 t'.labels.length p3, .slice B3 t'.kids.length q3] 51)).alloc (.cells #[.int .i64 c', .int .i64 (a' : Int)] 44)) = W3 at *
  clear hb hm3
  generalize w3.heap.size = T3 at *
  clear w3
  refine HKX.out _ _ ?_
  clear HKX
  go_wp2_with fail
  refine (hBt W3).mono ?_
  rintro e w4 ⟨hb, v, rfl, hT⟩
  have hm4 := chain hmb3 hb
  replace V1 := V1.keep hb V1.lt
  replace g1 := cell_keep g1 hb
  replace h1 := cell_keep h1 hb
  replace H1 := Lib.hid (H1.out.keep hb)
  replace V2 := V2.keep hb V2.lt
  replace g2 := cell_keep g2 hb
  replace h2 := cell_keep h2 hb
  replace H2 := Lib.hid (H2.out.keep hb)
  replace V3 := V3.keep hb V3.lt
  replace g3 := cell_keep g3 hb
  replace h3 := cell_keep h3 hb
  replace H3 := Lib.hid (H3.out.keep hb)
  have H4 := Lib.hid hT.is
  obtain ⟨lv, kv, rfl, k1, k2⟩ := hT
  obtain ⟨A4, p4, rfl, -, -⟩ := k1
  obtain ⟨B4, q4, rfl, -, -⟩ := k2
  clear hb hmb3
  rename_i Kx hkx Ky hky
  have HKX := Lib.hid hkx
  clear hkx
  go_wp2_with fail
  have hb : Below w4.heap.size w4 ((w4.alloc (.cells #[.int .i64 t'.kind, .int .i64 t'.sort, .string ⟨t'.name.toArray⟩, .slice A4 t'.labels.length p4, .slice B4 t'.kids.length q4] 51)).alloc (.cells #[.int .i64 c', .int .i64 (a' : Int)] 44)) := ((Below.refl _ _).alloc (Nat.le_refl _) _).alloc (by simp) _
  have V4 : VBox ((w4.alloc (.cells #[.int .i64 t'.kind, .int .i64 t'.sort, .string ⟨t'.name.toArray⟩, .slice A4 t'.labels.length p4, .slice B4 t'.kids.length q4] 51)).alloc (.cells #[.int .i64 c', .int .i64 (a' : Int)] 44)) w4.heap.size t' (.slice A4 t'.labels.length p4) (.slice B4 t'.kids.length q4) := ⟨by simp [go_sem], by simp [go_sem], by simp [go_sem], by simp [go_sem], by simp [go_sem], fun j => by simp [go_sem], by simp; omega⟩
  have g4 : (((w4.alloc (.cells #[.int .i64 t'.kind, .int .i64 t'.sort, .string ⟨t'.name.toArray⟩, .slice A4 t'.labels.length p4, .slice B4 t'.kids.length q4] 51)).alloc (.cells #[.int .i64 c', .int .i64 (a' : Int)] 44))).cell? ⟨w4.heap.size + 1, 0, none⟩ = some (.int .i64 c') := by simp [go_sem]
  have h4 : (((w4.alloc (.cells #[.int .i64 t'.kind, .int .i64 t'.sort, .string ⟨t'.name.toArray⟩, .slice A4 t'.labels.length p4, .slice B4 t'.kids.length q4] 51)).alloc (.cells #[.int .i64 c', .int .i64 (a' : Int)] 44))).cell? ⟨w4.heap.size + 1, 1, none⟩ = some (.int .i64 (a' : Int)) := by simp [go_sem]
  have hmb4 := chain hm4 hb
  replace V1 := V1.keep hb V1.lt
  replace g1 := cell_keep g1 hb
  replace h1 := cell_keep h1 hb
  replace H1 := Lib.hid (H1.out.keep hb)
  replace V2 := V2.keep hb V2.lt
  replace g2 := cell_keep g2 hb
  replace h2 := cell_keep h2 hb
  replace H2 := Lib.hid (H2.out.keep hb)
  replace V3 := V3.keep hb V3.lt
  replace g3 := cell_keep g3 hb
  replace h3 := cell_keep h3 hb
  replace H3 := Lib.hid (H3.out.keep hb)
  replace H4 := Lib.hid (H4.out.keep hb)
  generalize ((w4.alloc (.cells #[.int .i64 t'.kind, .int .i64 t'.sort, .string ⟨t'.name.toArray⟩, .slice A4 t'.labels.length p4, .slice B4 t'.kids.length q4] 51)).alloc (.cells #[.int .i64 c', .int .i64 (a' : Int)] 44)) = W4 at *
  clear hb hm4
  generalize w4.heap.size = T4 at *
  clear w4
  refine HKX.out _ _ ?_
  clear HKX
  go_wp2_with fail
  obtain ⟨vv, hvv⟩ : ∃ x, isVar l = x := ⟨_, rfl⟩
  have HVV := Lib.hid hvv; clear hvv
  refine (isVar_any l W4 hl').mono ?_; rw [HVV.out]; rintro e w5 ⟨rfl, hb⟩
  replace V1 := V1.keep hb V1.lt
  replace g1 := cell_keep g1 hb
  replace h1 := cell_keep h1 hb
  replace H1 := Lib.hid (H1.out.keep hb)
  replace V2 := V2.keep hb V2.lt
  replace g2 := cell_keep g2 hb
  replace h2 := cell_keep h2 hb
  replace H2 := Lib.hid (H2.out.keep hb)
  replace V3 := V3.keep hb V3.lt
  replace g3 := cell_keep g3 hb
  replace h3 := cell_keep h3 hb
  replace H3 := Lib.hid (H3.out.keep hb)
  replace V4 := V4.keep hb V4.lt
  replace g4 := cell_keep g4 hb
  replace h4 := cell_keep h4 hb
  replace H4 := Lib.hid (H4.out.keep hb)
  have hm5 := chain hmb4 hb
  clear hb hmb4
  clear W4
  go_wp2_with fail
  refine (refIsVar_any l w5 hl').mono ?_; rw [HVV.out]; rintro e w6 ⟨rfl, hb⟩
  replace V1 := V1.keep hb V1.lt
  replace g1 := cell_keep g1 hb
  replace h1 := cell_keep h1 hb
  replace H1 := Lib.hid (H1.out.keep hb)
  replace V2 := V2.keep hb V2.lt
  replace g2 := cell_keep g2 hb
  replace h2 := cell_keep h2 hb
  replace H2 := Lib.hid (H2.out.keep hb)
  replace V3 := V3.keep hb V3.lt
  replace g3 := cell_keep g3 hb
  replace h3 := cell_keep h3 hb
  replace H3 := Lib.hid (H3.out.keep hb)
  replace V4 := V4.keep hb V4.lt
  replace g4 := cell_keep g4 hb
  replace h4 := cell_keep h4 hb
  replace H4 := Lib.hid (H4.out.keep hb)
  have hm6 := chain hm5 hb
  clear hb hm5
  clear w5
  have hvt : (vv == vv) = true := by simp
  obtain ⟨a0, a1, a2, a3, a4, a5, a6⟩ := id V1
  obtain ⟨b0, b1, b2, b3, b4, b5, b6⟩ := id V2
  go_wp2_with fail
  refine (sameType_any (parts t) t _ _ w6 (Nat.le_refl _) hfit H1.out H2.out).mono ?_
  rintro e w7 ⟨rfl, hb⟩
  replace V1 := V1.keep hb V1.lt
  replace g1 := cell_keep g1 hb
  replace h1 := cell_keep h1 hb
  replace H1 := Lib.hid (H1.out.keep hb)
  replace V2 := V2.keep hb V2.lt
  replace g2 := cell_keep g2 hb
  replace h2 := cell_keep h2 hb
  replace H2 := Lib.hid (H2.out.keep hb)
  replace V3 := V3.keep hb V3.lt
  replace g3 := cell_keep g3 hb
  replace h3 := cell_keep h3 hb
  replace H3 := Lib.hid (H3.out.keep hb)
  replace V4 := V4.keep hb V4.lt
  replace g4 := cell_keep g4 hb
  replace h4 := cell_keep h4 hb
  replace H4 := Lib.hid (H4.out.keep hb)
  have hm7 := chain hm6 hb
  clear hb hm6 a0 a1 a2 a3 a4 a5 a6 b0 b1 b2 b3 b4 b5 b6
  clear w6
  obtain ⟨a0, a1, a2, a3, a4, a5, a6⟩ := id V3
  obtain ⟨b0, b1, b2, b3, b4, b5, b6⟩ := id V4
  go_wp2_with fail
  refine (sameType_any (parts t') t' _ _ w7 (Nat.le_refl _) hfit' H3.out H4.out).mono ?_
  rintro e w8 ⟨rfl, hb⟩
  have hm8 := chain hm7 hb
  go_wp2_with fail
  go_ret
  exact ⟨rfl, hm8⟩
end Go.Proofs.YtcacembpegoghaaDoor
