/-
  The law GlobalReads returns true whatever text is handed in.
-/
import Derived.Test.YtcacembpegoghaaDoorGlF
import Derived.Test.YtcacembpegoghaaDoorGlE
namespace Go.Proofs.YtcacembpegoghaaDoor
open Go.RowKit Go.Proofs

set_option maxRecDepth 100000
theorem zero_gfit : GFit zeroGl := .mk 0 [] [] 0 [] [] [] (by simp) (by simp) (by simp) (by simp) (by simp) (by simp) (by simp)
theorem gdParse_fit (l : Str) (hl : l.length ≤ maxLen) : GFit (gdParse l).1 := by
  have h0 := zero_gfit
  have h1 := gdOne_fit (l := l) hl (l.length + 1) 0
  unfold gdParse
  split
  · exact h0
  · split
    · exact h0
    · rename_i hr
      rw [hr] at h1
      split
      · exact h0
      · split
        · exact h1
        · exact h0
set_option maxHeartbeats 8000000 in
theorem greads_any (l : Str) (w : World) (hS : GSorts w) (hl : l.length ≤ maxLen) :
    Calls Tryd.prog 4 #[.string ⟨l.toArray⟩] w fun e w' => e = .returned (.bool true) ∧ Below w.heap.size w w' := by
  have hl' : l.length ≤ 9223372036854775807 := hl
  have hP := fun w hS => gParse_any l w hS hl'
  have hQ := fun w => gscParse_any l w hl'
  have hfit := gdParse_fit l hl
  generalize gdParse l = RP at hP hQ hfit
  obtain ⟨t, c, a⟩ := RP
  simp only at hP hQ hfit
  have hmb0 : Below w.heap.size w w := Below.refl _ _
  go_enter Tryd.func4, Tryd.ntmps4
  go_wp2_with fail
  refine (hP w hS).mono ?_
  rintro e w1 ⟨hb, v, rfl, hT⟩
  have hm1 := chain hmb0 hb
  have H1 : Hid (IsGl w1 _ t) := Lib.hid hT.all
  obtain ⟨lv, kv, rfl, k1, k2⟩ := hT
  obtain ⟨A1, p1, rfl, -, -⟩ := k1
  obtain ⟨B1, q1, rfl, -, -⟩ := k2
  clear hb hmb0
  rename_i Kx hkx Ky hky
  have HKX := Lib.hid hkx
  clear hkx
  go_wp2_with fail
  have hb : Below w1.heap.size w1 ((w1.alloc (.cells #[.int .i64 t.kind, .string ⟨t.frm.toArray⟩, .string ⟨t.rcv.toArray⟩, .int .i64 t.sort, .string ⟨t.name.toArray⟩, .slice A1 t.labels.length p1, .slice B1 t.kids.length q1] 42)).alloc (.cells #[.int .i64 c, .int .i64 (a : Int)] 44)) := ((Below.refl _ _).alloc (Nat.le_refl _) _).alloc (by simp) _
  have V1 : GBox ((w1.alloc (.cells #[.int .i64 t.kind, .string ⟨t.frm.toArray⟩, .string ⟨t.rcv.toArray⟩, .int .i64 t.sort, .string ⟨t.name.toArray⟩, .slice A1 t.labels.length p1, .slice B1 t.kids.length q1] 42)).alloc (.cells #[.int .i64 c, .int .i64 (a : Int)] 44)) w1.heap.size t (.slice A1 t.labels.length p1) (.slice B1 t.kids.length q1) := ⟨by simp [go_sem], by simp [go_sem], by simp [go_sem], by simp [go_sem], by simp [go_sem], by simp [go_sem], by simp [go_sem], fun j => by simp [go_sem], by simp; omega⟩
  have g1 : (((w1.alloc (.cells #[.int .i64 t.kind, .string ⟨t.frm.toArray⟩, .string ⟨t.rcv.toArray⟩, .int .i64 t.sort, .string ⟨t.name.toArray⟩, .slice A1 t.labels.length p1, .slice B1 t.kids.length q1] 42)).alloc (.cells #[.int .i64 c, .int .i64 (a : Int)] 44))).cell? ⟨w1.heap.size + 1, 0, none⟩ = some (.int .i64 c) := by simp [go_sem]
  have h1 : (((w1.alloc (.cells #[.int .i64 t.kind, .string ⟨t.frm.toArray⟩, .string ⟨t.rcv.toArray⟩, .int .i64 t.sort, .string ⟨t.name.toArray⟩, .slice A1 t.labels.length p1, .slice B1 t.kids.length q1] 42)).alloc (.cells #[.int .i64 c, .int .i64 (a : Int)] 44))).cell? ⟨w1.heap.size + 1, 1, none⟩ = some (.int .i64 (a : Int)) := by simp [go_sem]
  have hmb1 := chain hm1 hb
  replace H1 := Lib.hid (IsGl.keep H1.out hb)
  generalize ((w1.alloc (.cells #[.int .i64 t.kind, .string ⟨t.frm.toArray⟩, .string ⟨t.rcv.toArray⟩, .int .i64 t.sort, .string ⟨t.name.toArray⟩, .slice A1 t.labels.length p1, .slice B1 t.kids.length q1] 42)).alloc (.cells #[.int .i64 c, .int .i64 (a : Int)] 44)) = W1 at *
  clear hb hm1
  generalize w1.heap.size = T1 at *
  clear w1
  refine HKX.out _ _ ?_
  clear HKX
  go_wp2_with fail
  refine (hQ W1).mono ?_
  rintro e w2 ⟨hb, v, rfl, hT⟩
  have hm2 := chain hmb1 hb
  replace V1 := V1.keep hb V1.lt
  replace g1 := cell_keep g1 hb
  replace h1 := cell_keep h1 hb
  replace H1 := Lib.hid (IsGl.keep H1.out hb)
  have H2 : Hid (IsGl w2 _ t) := Lib.hid hT.all
  obtain ⟨lv, kv, rfl, k1, k2⟩ := hT
  obtain ⟨A2, p2, rfl, -, -⟩ := k1
  obtain ⟨B2, q2, rfl, -, -⟩ := k2
  clear hb hmb1
  rename_i Kx hkx Ky hky
  have HKX := Lib.hid hkx
  clear hkx
  go_wp2_with fail
  have hb : Below w2.heap.size w2 ((w2.alloc (.cells #[.int .i64 t.kind, .string ⟨t.frm.toArray⟩, .string ⟨t.rcv.toArray⟩, .int .i64 t.sort, .string ⟨t.name.toArray⟩, .slice A2 t.labels.length p2, .slice B2 t.kids.length q2] 42)).alloc (.cells #[.int .i64 c, .int .i64 (a : Int)] 44)) := ((Below.refl _ _).alloc (Nat.le_refl _) _).alloc (by simp) _
  have V2 : GBox ((w2.alloc (.cells #[.int .i64 t.kind, .string ⟨t.frm.toArray⟩, .string ⟨t.rcv.toArray⟩, .int .i64 t.sort, .string ⟨t.name.toArray⟩, .slice A2 t.labels.length p2, .slice B2 t.kids.length q2] 42)).alloc (.cells #[.int .i64 c, .int .i64 (a : Int)] 44)) w2.heap.size t (.slice A2 t.labels.length p2) (.slice B2 t.kids.length q2) := ⟨by simp [go_sem], by simp [go_sem], by simp [go_sem], by simp [go_sem], by simp [go_sem], by simp [go_sem], by simp [go_sem], fun j => by simp [go_sem], by simp; omega⟩
  have g2 : (((w2.alloc (.cells #[.int .i64 t.kind, .string ⟨t.frm.toArray⟩, .string ⟨t.rcv.toArray⟩, .int .i64 t.sort, .string ⟨t.name.toArray⟩, .slice A2 t.labels.length p2, .slice B2 t.kids.length q2] 42)).alloc (.cells #[.int .i64 c, .int .i64 (a : Int)] 44))).cell? ⟨w2.heap.size + 1, 0, none⟩ = some (.int .i64 c) := by simp [go_sem]
  have h2 : (((w2.alloc (.cells #[.int .i64 t.kind, .string ⟨t.frm.toArray⟩, .string ⟨t.rcv.toArray⟩, .int .i64 t.sort, .string ⟨t.name.toArray⟩, .slice A2 t.labels.length p2, .slice B2 t.kids.length q2] 42)).alloc (.cells #[.int .i64 c, .int .i64 (a : Int)] 44))).cell? ⟨w2.heap.size + 1, 1, none⟩ = some (.int .i64 (a : Int)) := by simp [go_sem]
  have hmb2 := chain hm2 hb
  replace V1 := V1.keep hb V1.lt
  replace g1 := cell_keep g1 hb
  replace h1 := cell_keep h1 hb
  replace H1 := Lib.hid (IsGl.keep H1.out hb)
  replace H2 := Lib.hid (IsGl.keep H2.out hb)
  generalize ((w2.alloc (.cells #[.int .i64 t.kind, .string ⟨t.frm.toArray⟩, .string ⟨t.rcv.toArray⟩, .int .i64 t.sort, .string ⟨t.name.toArray⟩, .slice A2 t.labels.length p2, .slice B2 t.kids.length q2] 42)).alloc (.cells #[.int .i64 c, .int .i64 (a : Int)] 44)) = W2 at *
  clear hb hm2
  generalize w2.heap.size = T2 at *
  clear w2
  refine HKX.out _ _ ?_
  clear HKX
  go_wp2_with fail
  obtain ⟨vv, hvv⟩ : ∃ x, isRole l = x := ⟨_, rfl⟩
  have HVV := Lib.hid hvv; clear hvv
  refine (isRole_any l W2 hl').mono ?_; rw [HVV.out]; rintro e w5 ⟨rfl, hb⟩
  replace V1 := V1.keep hb V1.lt
  replace g1 := cell_keep g1 hb
  replace h1 := cell_keep h1 hb
  replace H1 := Lib.hid (IsGl.keep H1.out hb)
  replace V2 := V2.keep hb V2.lt
  replace g2 := cell_keep g2 hb
  replace h2 := cell_keep h2 hb
  replace H2 := Lib.hid (IsGl.keep H2.out hb)
  have hm5 := chain hmb2 hb
  clear hb hmb2
  clear W2
  go_wp2_with fail
  refine (refIsRole_any l w5).mono ?_; rw [HVV.out]; rintro e w6 ⟨rfl, hb⟩
  replace V1 := V1.keep hb V1.lt
  replace g1 := cell_keep g1 hb
  replace h1 := cell_keep h1 hb
  replace H1 := Lib.hid (IsGl.keep H1.out hb)
  replace V2 := V2.keep hb V2.lt
  replace g2 := cell_keep g2 hb
  replace h2 := cell_keep h2 hb
  replace H2 := Lib.hid (IsGl.keep H2.out hb)
  have hm6 := chain hm5 hb
  clear hb hm5
  clear w5
  have hvt : (vv == vv) = true := by simp
  obtain ⟨a0, a1, a2, a3, a4, a5, a6, a7, a8⟩ := id V1
  obtain ⟨b0, b1, b2, b3, b4, b5, b6, b7, b8⟩ := id V2
  go_wp2_with fail
  refine (sameGlobal_any (gparts t) t _ _ w6 (Nat.le_refl _) hfit H1.out H2.out).mono ?_
  rintro e w7 ⟨rfl, hb⟩
  have hm7 := chain hm6 hb
  go_wp2_with fail
  go_ret
  exact ⟨rfl, hm7⟩
end Go.Proofs.YtcacembpegoghaaDoor
