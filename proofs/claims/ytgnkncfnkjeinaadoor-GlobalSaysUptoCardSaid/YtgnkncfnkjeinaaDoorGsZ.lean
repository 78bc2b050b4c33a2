/-
  The law GlobalSays returns true whatever conversation and roles are handed in.
-/
import Derived.Test.YtgnkncfnkjeinaaDoorGsM
import Derived.Test.YtgnkncfnkjeinaaDoorM21
import Derived.Test.YtgnkncfnkjeinaaDoorM24
import Derived.Test.YtgnkncfnkjeinaaDoorM25
import Derived.Test.YtgnkncfnkjeinaaDoorGlW
namespace Go.Proofs.YtgnkncfnkjeinaaDoor
open Go.RowKit Go.Proofs
set_option maxRecDepth 100000

set_option maxHeartbeats 16000000 in
theorem gsays_bad (F T : List Str) (t : Gl) (v fv tv : Value) (w : World) (hv : IsGl w v t) (hf : GFit t) (hF : IsStrs w fv F) (hT : IsStrs w tv T) (hFl : F.length ≤ 9223372036854775807) (hTl : T.length ≤ 9223372036854775807) (hsw : GSorts w) (E : Int) (hE : glErr t = E) (h0 : E ≠ 0) :
    Calls Tryd.prog 6 #[v, fv, tv] w fun e w' => e = .returned (.bool true) ∧ Below w.heap.size w w' := by
  have HZ := Lib.hid hv
  obtain ⟨lv, kv, rfl, h1, h2⟩ := hv
  obtain ⟨A0, p0, rfl, -, -⟩ := h1
  obtain ⟨A, cap, rfl, -, -⟩ := h2
  have HF := Lib.hid hF
  have HT := Lib.hid hT
  obtain ⟨AF, cF, rfl, -, -⟩ := hF
  obtain ⟨AT, cT, rfl, -, -⟩ := hT
  have HSW := Lib.hid hsw
  clear hsw
  have HE := Lib.hid hE
  have HNE := Lib.hid h0
  have hb1' : (E != 0) = true := by rw [bne_iff_ne]; exact h0
  have hb2' : (E == 0) = false := by simpa using h0
  have hb3' : (E == E) = true := by simp
  have HRE : Hid (renE t F T = E) := Lib.hid (by unfold renE; rw [hE, if_pos h0])
  have HRR : Hid (renR t F T = zeroGl) := Lib.hid (renR_bad HRE.out h0)
  clear h0 hE
  go_enter Tryd.func6, Tryd.ntmps6
  go_wp2_with fail
  obtain ⟨W, hW⟩ : ∃ W, w.alloc (.cells #[.int .i64 t.kind, .string ⟨t.frm.toArray⟩, .string ⟨t.rcv.toArray⟩, .int .i64 t.sort, .string ⟨t.name.toArray⟩, .slice A0 t.labels.length p0, .slice A t.kids.length cap] 52) = W := ⟨_, rfl⟩
  have GT0 : GBox W w.heap.size t (.slice A0 t.labels.length p0) (.slice A t.kids.length cap) := by subst hW; exact new_gval w t (.slice A0 t.labels.length p0) (.slice A t.kids.length cap) 52
  have hb0 : Below w.heap.size w W := by subst hW; exact (Below.refl _ _).alloc (Nat.le_refl _) _
  try rw [hW]
  clear hW
  obtain ⟨x0, x1, x2, x3, x4, x5, x6, x7, x8⟩ := id GT0
  refine (refGlobal_any t _ W (IsGl.keep HZ.out hb0) hf).mono ?_; rw [HE.out]; rintro e w1 ⟨rfl, hq⟩
  have GT1 := GT0.keep hq GT0.lt
  have hb1 := chain hb0 hq
  clear x0 x1 x2 x3 x4 x5 x6 x7 x8 GT0
  obtain ⟨x0, x1, x2, x3, x4, x5, x6, x7, x8⟩ := id GT1
  clear hq
  go_wp2_with fail
  refine (gWrite_bad t _ w1 (IsGl.keep HZ.out hb1) hf E HE.out HNE.out).mono ?_; rintro e w2 ⟨rfl, hq⟩
  have GT2 := GT1.keep hq GT1.lt
  have hb2 := chain hb1 hq
  clear x0 x1 x2 x3 x4 x5 x6 x7 x8 GT1
  obtain ⟨x0, x1, x2, x3, x4, x5, x6, x7, x8⟩ := id GT2
  clear hq
  go_wp2_with fail
  refine (gRoles_bad t _ w2 (IsGl.keep HZ.out hb2) hf E HE.out HNE.out).mono ?_; rintro e w3 ⟨rfl, hq⟩
  have GT3 := GT2.keep hq GT2.lt
  have hb3 := chain hb2 hq
  clear x0 x1 x2 x3 x4 x5 x6 x7 x8 GT2
  obtain ⟨x0, x1, x2, x3, x4, x5, x6, x7, x8⟩ := id GT3
  clear hq
  go_wp2_with fail
  refine (Rename_bad F T t _ _ _ w3 (IsGl.keep HZ.out hb3) hf (HF.out.keep hb3) (HT.out.keep hb3) hFl hTl E HE.out HNE.out).mono ?_
  rw [HRE.out, HRR.out]
  rintro e w4 ⟨hq, v', rfl, hX⟩
  have HX := Lib.hid hX
  obtain ⟨lvx, kvx, rfl, m1, m2⟩ := hX
  obtain ⟨D1, e1, rfl, -, -⟩ := m1
  obtain ⟨D2, e2, rfl, -, -⟩ := m2
  have GT4 := GT3.keep hq GT3.lt
  have hb4 := chain hb3 hq
  clear x0 x1 x2 x3 x4 x5 x6 x7 x8 GT3
  obtain ⟨x0, x1, x2, x3, x4, x5, x6, x7, x8⟩ := id GT4
  clear hq
  go_wp2_with fail
  obtain ⟨W5, hW5⟩ : ∃ x, (w4.alloc (.cells #[.int .i64 zeroGl.kind, .string ⟨zeroGl.frm.toArray⟩, .string ⟨zeroGl.rcv.toArray⟩, .int .i64 zeroGl.sort, .string ⟨zeroGl.name.toArray⟩, .slice D1 zeroGl.labels.length e1, .slice D2 zeroGl.kids.length e2] 52)).alloc (.cells #[.int .i64 0, .string ⟨#[]⟩, .string ⟨#[]⟩, .int .i64 0, .string ⟨#[]⟩, .slice none 0 0, .slice none 0 0] 52) = x := ⟨_, rfl⟩
  have hq : Below w4.heap.size w4 W5 := by subst hW5; exact ((Below.refl _ _).alloc (Nat.le_refl _) _).alloc (by simp) _
  have GX : GBox W5 w4.heap.size zeroGl (.slice D1 zeroGl.labels.length e1) (.slice D2 zeroGl.kids.length e2) := by subst hW5; exact (new_gval w4 zeroGl (.slice D1 zeroGl.labels.length e1) (.slice D2 zeroGl.kids.length e2) 52).keep ((Below.refl _ _).alloc (Nat.le_refl _) _) (by simp)
  have GZ : GBox W5 (w4.heap.size + 1) zeroGl (.slice none 0 0) (.slice none 0 0) := by subst hW5; have := new_gbox (w4.alloc (.cells #[.int .i64 zeroGl.kind, .string ⟨zeroGl.frm.toArray⟩, .string ⟨zeroGl.rcv.toArray⟩, .int .i64 zeroGl.sort, .string ⟨zeroGl.name.toArray⟩, .slice D1 zeroGl.labels.length e1, .slice D2 zeroGl.kids.length e2] 52)) 52; simpa using this
  try rw [hW5]
  clear hW5
  replace HX := Lib.hid (IsGl.keep HX.out hq)
  have GT5 := GT4.keep hq GT4.lt
  have hb5 := chain hb4 hq
  clear x0 x1 x2 x3 x4 x5 x6 x7 x8 GT4
  obtain ⟨x0, x1, x2, x3, x4, x5, x6, x7, x8⟩ := id GT5
  clear hq
  refine (gCheck_any t _ W5 (IsGl.keep HZ.out hb5) hf).mono ?_; rw [HE.out]; rintro e w6 ⟨rfl, hq⟩
  have GX6 := GX.keep hq GX.lt
  have GZ6 := GZ.keep hq GZ.lt
  have hb6 := chain hb5 hq
  replace HX := Lib.hid (IsGl.keep HX.out hq)
  clear hq GX GZ GT5 x0 x1 x2 x3 x4 x5 x6 x7 x8
  go_wp2_with fail
  refine (text_any [] [] E E w6 ⟨fun _ => ⟨rfl, rfl⟩, fun h => absurd h HNE.out⟩).mono ?_; rintro e w7 ⟨rfl, rfl⟩
  go_wp2_with fail
  refine (list_bad (.slice none 0 0) (.slice none 0 0) E w7 HNE.out rfl).mono ?_; rintro e w8 ⟨rfl, hq⟩
  obtain ⟨y0, y1, y2, y3, y4, y5, y6, y7, y8⟩ := GX6.keep hq GX6.lt
  obtain ⟨z0, z1, z2, z3, z4, z5, z6, z7, z8⟩ := GZ6.keep hq GZ6.lt
  simp only [Gl.kind, Gl.frm, Gl.rcv, Gl.sort, Gl.name, zeroGl] at z0 z1 z2 z3 z4
  have hb8 := chain hb6 hq
  replace HX := Lib.hid (IsGl.keep HX.out hq)
  clear hq
  go_wp2_with fail
  refine (sameGlobal_any (gparts zeroGl) zeroGl _ _ w8 (Nat.le_refl _) gfit_zero HX.out (zero_gl _ _)).mono ?_
  rintro e w9 ⟨rfl, hq⟩
  have hb9 := chain hb8 hq
  clear hq y0 y1 y2 y3 y4 y5 y6 y7 y8 z0 z1 z2 z3 z4 z5 z6 z7 z8
  go_wp2_with fail
  go_ret
  exact ⟨rfl, hb9⟩

set_option maxHeartbeats 16000000 in
theorem gsays_len (F T : List Str) (t : Gl) (v fv tv : Value) (w : World) (hv : IsGl w v t) (hf : GFit t) (hF : IsStrs w fv F) (hT : IsStrs w tv T) (hFl : F.length ≤ 9223372036854775807) (hTl : T.length ≤ 9223372036854775807) (hsw : GSorts w) (hE : glErr t = 0) (hlen : F.length ≠ T.length) :
    Calls Tryd.prog 6 #[v, fv, tv] w fun e w' => e = .returned (.bool true) ∧ Below w.heap.size w w' := by
  have HZ := Lib.hid hv
  obtain ⟨lv, kv, rfl, h1, h2⟩ := hv
  obtain ⟨A0, p0, rfl, -, -⟩ := h1
  obtain ⟨A, cap, rfl, -, -⟩ := h2
  have HF := Lib.hid hF
  have HT := Lib.hid hT
  obtain ⟨AF, cF, rfl, -, -⟩ := hF
  obtain ⟨AT, cT, rfl, -, -⟩ := hT
  have HSW := Lib.hid hsw
  clear hsw
  have HE := Lib.hid hE
  have hgood := ggood_of_gchk t [] 60 hE
  have hp60 := gparts_ok hE
  have HLEN := Lib.hid hlen
  have hnb : ((F.length : Int) != (T.length : Int)) = true := by rw [bne_iff_ne]; omega
  have HRE : Hid (renE t F T = 1) := Lib.hid (by unfold renE; rw [hE, if_neg (by simp), if_neg hlen])
  have HRR : Hid (renR t F T = zeroGl) := Lib.hid (renR_bad HRE.out (by decide))
  clear hlen hE
  go_enter Tryd.func6, Tryd.ntmps6
  go_wp2_with fail
  obtain ⟨W, hW⟩ : ∃ W, w.alloc (.cells #[.int .i64 t.kind, .string ⟨t.frm.toArray⟩, .string ⟨t.rcv.toArray⟩, .int .i64 t.sort, .string ⟨t.name.toArray⟩, .slice A0 t.labels.length p0, .slice A t.kids.length cap] 52) = W := ⟨_, rfl⟩
  have GT0 : GBox W w.heap.size t (.slice A0 t.labels.length p0) (.slice A t.kids.length cap) := by subst hW; exact new_gval w t (.slice A0 t.labels.length p0) (.slice A t.kids.length cap) 52
  have hb0 : Below w.heap.size w W := by subst hW; exact (Below.refl _ _).alloc (Nat.le_refl _) _
  try rw [hW]
  clear hW
  obtain ⟨x0, x1, x2, x3, x4, x5, x6, x7, x8⟩ := id GT0
  refine (refGlobal_any t _ W (IsGl.keep HZ.out hb0) hf).mono ?_; rw [HE.out]; rintro e w1 ⟨rfl, hq⟩
  have GT1 := GT0.keep hq GT0.lt
  have hb1 := chain hb0 hq
  clear x0 x1 x2 x3 x4 x5 x6 x7 x8 GT0
  obtain ⟨x0, x1, x2, x3, x4, x5, x6, x7, x8⟩ := id GT1
  clear hq
  go_wp2_with fail
  refine (gWrite_ok t _ w1 (IsGl.keep HZ.out hb1) hf HE.out (HSW.out.keep hb1)).mono ?_; rintro e w2 ⟨rfl, hq⟩
  obtain ⟨TX, hTX⟩ : ∃ x, gtxt t = x := ⟨_, rfl⟩
  have HTX := Lib.hid hTX
  rw [hTX]
  clear hTX
  have GT2 := GT1.keep hq GT1.lt
  have hb2 := chain hb1 hq
  clear x0 x1 x2 x3 x4 x5 x6 x7 x8 GT1
  obtain ⟨x0, x1, x2, x3, x4, x5, x6, x7, x8⟩ := id GT2
  clear hq
  go_wp2_with fail
  refine (gRoles_ok t _ w2 (IsGl.keep HZ.out hb2) hf HE.out).mono ?_; rintro e w3 ⟨hq, vr, rfl, ownR⟩
  have hst3 : StrsD (fun k => k < w3.heap.size) w3 vr (grolesOf t) := (own_strsD (D := fun _ => True) ownR fun _ _ => trivial).keep (Same.refl _ _) (fun _ _ h => h)
  obtain ⟨Ar, cr, rfl⟩ := own_form ownR
  clear ownR
  obtain ⟨GR, hGR⟩ : ∃ x, grolesOf t = x := ⟨_, rfl⟩
  have HGR := Lib.hid hGR
  rw [hGR] at hst3 ⊢
  have HRS := Lib.hid hst3
  clear hst3 hGR
  have GT3 := GT2.keep hq GT2.lt
  have hb3 := chain hb2 hq
  clear x0 x1 x2 x3 x4 x5 x6 x7 x8 GT2
  obtain ⟨x0, x1, x2, x3, x4, x5, x6, x7, x8⟩ := id GT3
  clear hq
  go_wp2_with fail
  refine (Rename_len F T t _ _ _ w3 (IsGl.keep HZ.out hb3) hf (HF.out.keep hb3) (HT.out.keep hb3) hFl hTl HE.out HLEN.out).mono ?_
  rw [HRE.out, HRR.out]
  obtain ⟨XX, hXX⟩ : ∃ x, x = zeroGl := ⟨_, rfl⟩
  have HXX := Lib.hid hXX
  rw [← hXX]
  clear hXX
  rintro e w4 ⟨hq, v', rfl, hX⟩
  have HX := Lib.hid (GlV.here hX)
  obtain ⟨lvx, kvx, rfl, m1, m2⟩ := hX
  obtain ⟨D1, e1, rfl, -, -⟩ := m1
  obtain ⟨D2, e2, rfl, -, -⟩ := m2
  replace HRS := Lib.hid (HRS.out.below hq)
  have h34 := hq.size
  have GT4 := GT3.keep hq GT3.lt
  have hb4 := chain hb3 hq
  clear x0 x1 x2 x3 x4 x5 x6 x7 x8 GT3
  obtain ⟨x0, x1, x2, x3, x4, x5, x6, x7, x8⟩ := id GT4
  clear hq
  go_wp2_with fail
  obtain ⟨W5, hW5⟩ : ∃ x, (w4.alloc (.cells #[.int .i64 XX.kind, .string ⟨XX.frm.toArray⟩, .string ⟨XX.rcv.toArray⟩, .int .i64 XX.sort, .string ⟨XX.name.toArray⟩, .slice D1 XX.labels.length e1, .slice D2 XX.kids.length e2] 52)).alloc (.cells #[.int .i64 0, .string ⟨#[]⟩, .string ⟨#[]⟩, .int .i64 0, .string ⟨#[]⟩, .slice none 0 0, .slice none 0 0] 52) = x := ⟨_, rfl⟩
  have hq : Below w4.heap.size w4 W5 := by subst hW5; exact ((Below.refl _ _).alloc (Nat.le_refl _) _).alloc (by simp) _
  have GX : GBox W5 w4.heap.size XX (.slice D1 XX.labels.length e1) (.slice D2 XX.kids.length e2) := by subst hW5; exact (new_gval w4 XX (.slice D1 XX.labels.length e1) (.slice D2 XX.kids.length e2) 52).keep ((Below.refl _ _).alloc (Nat.le_refl _) _) (by simp)
  have GZ : GBox W5 (w4.heap.size + 1) zeroGl (.slice none 0 0) (.slice none 0 0) := by subst hW5; have := new_gbox (w4.alloc (.cells #[.int .i64 XX.kind, .string ⟨XX.frm.toArray⟩, .string ⟨XX.rcv.toArray⟩, .int .i64 XX.sort, .string ⟨XX.name.toArray⟩, .slice D1 XX.labels.length e1, .slice D2 XX.kids.length e2] 52)) 52; simpa using this
  have h5s : W5.heap.size = w4.heap.size + 2 := by subst hW5; simp
  try rw [hW5]
  clear hW5
  replace HX := Lib.hid (GlV.below HX.out hq)
  replace HRS := Lib.hid (HRS.out.below hq)
  have GT5 := GT4.keep hq GT4.lt
  have hb5 := chain hb4 hq
  clear x0 x1 x2 x3 x4 x5 x6 x7 x8 GT4
  obtain ⟨x0, x1, x2, x3, x4, x5, x6, x7, x8⟩ := id GT5
  have h4s := hb4.size
  clear hq
  have HSB : Hid (∀ w' : World, Below W5.heap.size W5 w' → (fun w' : World => w'.cell? ⟨w.heap.size, 0, none⟩ = some (.int .i64 t.kind) ∧ w'.cell? ⟨w.heap.size, 1, none⟩ = some (.string ⟨t.frm.toArray⟩) ∧ w'.cell? ⟨w.heap.size, 2, none⟩ = some (.string ⟨t.rcv.toArray⟩) ∧ w'.cell? ⟨w.heap.size, 3, none⟩ = some (.int .i64 t.sort) ∧ w'.cell? ⟨w.heap.size, 4, none⟩ = some (.string ⟨t.name.toArray⟩) ∧ w'.cell? ⟨w.heap.size, 5, none⟩ = some (.slice A0 t.labels.length p0) ∧ w'.cell? ⟨w.heap.size, 6, none⟩ = some (.slice A t.kids.length cap)) w') := Lib.hid (fun w' h => by have := GT5.keep h GT5.lt; exact ⟨this.c0, this.c1, this.c2, this.c3, this.c4, this.c5, this.c6⟩)
  have hd0 : Below W5.heap.size W5 W5.drew := (Below.refl _ _).drew
  refine wp_region_T 5 (fun w' : World => w'.cell? ⟨w.heap.size, 0, none⟩ = some (.int .i64 t.kind) ∧ w'.cell? ⟨w.heap.size, 1, none⟩ = some (.string ⟨t.frm.toArray⟩) ∧ w'.cell? ⟨w.heap.size, 2, none⟩ = some (.string ⟨t.rcv.toArray⟩) ∧ w'.cell? ⟨w.heap.size, 3, none⟩ = some (.int .i64 t.sort) ∧ w'.cell? ⟨w.heap.size, 4, none⟩ = some (.string ⟨t.name.toArray⟩) ∧ w'.cell? ⟨w.heap.size, 5, none⟩ = some (.slice A0 t.labels.length p0) ∧ w'.cell? ⟨w.heap.size, 6, none⟩ = some (.slice A t.kids.length cap)) (by kernel_rfl) ?_
  generalize W5.drew = v0 at hd0 ⊢
  refine wpT_take (i := 0) (v := ?_) rfl (by kernel_rfl) (by kernel_rfl) (by kernel_rfl) (by kernel_rfl) (fun _ _ _ h => h) (Or.inl ⟨by rfl, ?_⟩) (HSB.out _ hd0) ?_
  rotate_left
  · (intro wq hSw; obtain ⟨q0, q1, q2, q3, q4, q5, q6⟩ := hSw; go_simp; all_goals (first | (with_reducible rfl) | (rw [if_neg (by first | omega | (simp; omega) | (simp only [List.length_append, List.length_cons, List.length_nil]; omega))])))
  simp only [List.getElem_toArray, List.getElem_cons_succ, List.getElem_cons_zero, Act.put, List.setIfInBounds_toArray, List.set_cons_zero, List.set_cons_succ]
  refine wpT_take (i := 2) (v := ?_) rfl (by kernel_rfl) (by kernel_rfl) (by kernel_rfl) (by kernel_rfl) (fun _ _ _ h => h) (Or.inl ⟨by rfl, ?_⟩) (HSB.out _ hd0) ?_
  rotate_left
  · (intro wq hSw; obtain ⟨q0, q1, q2, q3, q4, q5, q6⟩ := hSw; go_simp; all_goals (first | (with_reducible rfl) | (rw [if_neg (by first | omega | (simp; omega) | (simp only [List.length_append, List.length_cons, List.length_nil]; omega))])))
  simp only [List.getElem_toArray, List.getElem_cons_succ, List.getElem_cons_zero, Act.put, List.setIfInBounds_toArray, List.set_cons_zero, List.set_cons_succ]
  refine wpT_one (i := 1) rfl (by kernel_rfl) fun K hK => ?_
  go_simp
  have htx := gtext_any (gparts t) t (.agg #[.int .i64 t.kind, .string ⟨t.frm.toArray⟩, .string ⟨t.rcv.toArray⟩, .int .i64 t.sort, .string ⟨t.name.toArray⟩, .slice A0 t.labels.length p0, .slice A t.kids.length cap]) v0 (Nat.le_refl _) hp60 (IsGl.keep HZ.out (chain hb5 hd0)) hgood
  unfold GSays at htx
  rw [HTX.out] at htx
  refine htx.mono ?_
  clear htx
  rintro e v1 ⟨rfl, hq⟩
  have hd1 := chain hd0 hq
  clear hq
  refine hK.out _ _ (fun _ => HSB.out _ hd1) ?_
  clear hK K
  try simp only [List.getElem_toArray, List.getElem_cons_succ, List.getElem_cons_zero, Act.put, List.setIfInBounds_toArray, List.set_cons_zero, List.set_cons_succ]
  refine wpT_one (i := 3) rfl (by kernel_rfl) fun K hK => ?_
  go_simp
  refine (rolesOf_any t (.agg #[.int .i64 t.kind, .string ⟨t.frm.toArray⟩, .string ⟨t.rcv.toArray⟩, .int .i64 t.sort, .string ⟨t.name.toArray⟩, .slice A0 t.labels.length p0, .slice A t.kids.length cap]) v1 hp60 (IsGl.keep HZ.out (chain hb5 hd1)) hgood).mono ?_
  rw [HGR.out]
  rintro e v2 ⟨hq, vo, rfl, ownO⟩
  have hd2 := chain hd1 hq
  have HOS : Hid (StrsD (fun k => w4.heap.size + 2 ≤ k) v2 vo GR) := Lib.hid (own_strsD ownO fun k hk => by have := hd1.size; show w4.heap.size + 2 ≤ k; omega)
  obtain ⟨Ao, co, rfl⟩ := own_form ownO
  clear hq ownO
  refine hK.out _ _ (fun _ => HSB.out _ hd2) ?_
  clear hK K
  try simp only [List.getElem_toArray, List.getElem_cons_succ, List.getElem_cons_zero, Act.put, List.setIfInBounds_toArray, List.set_cons_zero, List.set_cons_succ]
  refine wpT_one (i := 4) rfl (by kernel_rfl) fun K hK => ?_
  go_simp
  refine hK.out _ _ (fun _ => HSB.out _ hd2) ?_
  clear hK K
  try simp only [List.getElem_toArray, List.getElem_cons_succ, List.getElem_cons_zero, Act.put, List.setIfInBounds_toArray, List.set_cons_zero, List.set_cons_succ]
  refine wpT_one (i := 5) rfl (by kernel_rfl) fun K hK => ?_
  go_simp
  refine hK.out _ _ (fun h => absurd h (by decide)) ?_
  clear hK K
  try simp only [List.getElem_toArray, List.getElem_cons_succ, List.getElem_cons_zero, Act.put, List.setIfInBounds_toArray, List.set_cons_zero, List.set_cons_succ]
  refine wpT_done (by kernel_rfl) ?_
  have hb6 := chain hb5 hd2
  have GT6 := GT5.keep hd2 GT5.lt
  have GX6 := GX.keep hd2 GX.lt
  have GZ6 := GZ.keep hd2 GZ.lt
  replace HX := Lib.hid (GlV.below HX.out hd2)
  replace HRS := Lib.hid (HRS.out.below hd2)
  clear hd0 hd1 hd2 HSB GX GZ GT5 x0 x1 x2 x3 x4 x5 x6 x7 x8
  have hGR8 : GR.length ≤ 1000 := by
    rw [← HGR.out]
    have := List.length_filter_le (fun r => gspk r t) letters
    have h2 : letters.length = 8 := rfl
    unfold grolesOf
    omega
  go_wp2_with fail
  go_loopw [18, 15] (fun i j wr => i = .int .i64 0 ∧ j = .int .i64 1 ∧ wr = v2) (fun _ _ _ => 0)
  case atStart => exact ⟨rfl, rfl, rfl⟩
  case round =>
    obtain ⟨rfl, rfl, rfl⟩ := hrel
    have hL0 : 0 < F.length ∨ ¬ 0 < F.length := Decidable.em _
    rcases hL0 with hL0 | hL0
    all_goals
      obtain ⟨x0, x1, x2, x3, x4, x5, x6, x7, x8⟩ := id GT6
      go_wp2_with fail
      refine (gCheck_any t _ wr (IsGl.keep HZ.out hb6) hf).mono ?_; rw [HE.out]; rintro e w7 ⟨rfl, hq⟩
      have GX7 := GX6.keep hq GX6.lt
      have GZ7 := GZ6.keep hq GZ6.lt
      have hb7 := chain hb6 hq
      replace HX := Lib.hid (GlV.below HX.out hq)
      replace HRS := Lib.hid (HRS.out.below hq)
      replace HOS := Lib.hid (HOS.out.below hq)
      clear hq x0 x1 x2 x3 x4 x5 x6 x7 x8
      go_wp2_with fail
      refine (text_any TX TX 0 0 w7 ⟨fun h => absurd rfl h, fun _ => ⟨rfl, rfl⟩⟩).mono ?_; rintro e w8 ⟨rfl, rfl⟩
      go_wp2_with fail
      refine (list_ok GR _ _ w8 HRS.out.is HOS.out.is hGR8).mono ?_; rintro e w9 ⟨rfl, hq⟩
      obtain ⟨y0, y1, y2, y3, y4, y5, y6, y7, y8⟩ := GX7.keep hq GX7.lt
      obtain ⟨z0, z1, z2, z3, z4, z5, z6, z7, z8⟩ := GZ7.keep hq GZ7.lt
      have hb9 := chain hb7 hq
      replace HX := Lib.hid (GlV.below HX.out hq)
      clear hq
      simp only [Gl.kind, Gl.frm, Gl.rcv, Gl.sort, Gl.name, zeroGl] at z0 z1 z2 z3 z4
      go_wp2_with fail
      refine (sameGlobal_any (gparts XX) XX _ _ w9 (Nat.le_refl _) (by rw [HXX.out]; exact gfit_zero) (GlV.all HX.out) (by rw [HXX.out]; exact zero_gl _ _)).mono ?_
      rintro e w10 ⟨rfl, hq⟩
      have hb10 := chain hb9 hq
      clear hq y0 y1 y2 y3 y4 y5 y6 y7 y8 z0 z1 z2 z3 z4 z5 z6 z7 z8
      go_wp2_with fail
      go_ret
      exact ⟨rfl, hb10⟩

set_option maxHeartbeats 16000000 in
theorem gsays_eq (F T : List Str) (t : Gl) (v fv tv : Value) (w : World) (hv : IsGl w v t) (hf : GFit t) (hF : IsStrs w fv F) (hT : IsStrs w tv T) (hFl : F.length ≤ 9223372036854775807) (hTl : T.length ≤ 9223372036854775807) (hsw : GSorts w) (hTs : ∀ x ∈ T, x.length ≤ 9223372036854775807) (hFs : ∀ x ∈ F, x.length ≤ 9223372036854775807) (hE : glErr t = 0) (hlen : F.length = T.length) :
    Calls Tryd.prog 6 #[v, fv, tv] w fun e w' => e = .returned (.bool true) ∧ Below w.heap.size w w' := by
  have HZ := Lib.hid hv
  obtain ⟨lv, kv, rfl, h1, h2⟩ := hv
  obtain ⟨A0, p0, rfl, -, -⟩ := h1
  obtain ⟨A, cap, rfl, -, -⟩ := h2
  have HF := Lib.hid hF
  have HT := Lib.hid hT
  obtain ⟨AF, cF, rfl, -, -⟩ := hF
  obtain ⟨AT, cT, rfl, -, -⟩ := hT
  have HSW := Lib.hid hsw
  clear hsw
  have HE := Lib.hid hE
  have hgood := ggood_of_gchk t [] 60 hE
  have hp60 := gparts_ok hE
  obtain ⟨L, hL⟩ : ∃ x, F.length = x := ⟨_, rfl⟩
  have hL2 := hlen.symm.trans hL
  have HLF := Lib.hid hL
  have HLT := Lib.hid hL2
  have HLE := Lib.hid hlen
  rw [hL] at HF hFl ⊢
  rw [hL2] at HT ⊢
  have hnb : ((L : Int) != (L : Int)) = false := by simp
  have HFS := Lib.hid hFs
  have HTS := Lib.hid hTs
  obtain ⟨EE, hEE⟩ : ∃ x, renE t F T = x := ⟨_, rfl⟩
  obtain ⟨XX, hXX⟩ : ∃ x, renR t F T = x := ⟨_, rfl⟩
  have HEE := Lib.hid hEE
  have HXX := Lib.hid hXX
  clear hEE hXX hlen hE hL hL2 hTl hTs hFs
  go_enter Tryd.func6, Tryd.ntmps6
  go_wp2_with fail
  obtain ⟨W, hW⟩ : ∃ W, w.alloc (.cells #[.int .i64 t.kind, .string ⟨t.frm.toArray⟩, .string ⟨t.rcv.toArray⟩, .int .i64 t.sort, .string ⟨t.name.toArray⟩, .slice A0 t.labels.length p0, .slice A t.kids.length cap] 52) = W := ⟨_, rfl⟩
  have GT0 : GBox W w.heap.size t (.slice A0 t.labels.length p0) (.slice A t.kids.length cap) := by subst hW; exact new_gval w t (.slice A0 t.labels.length p0) (.slice A t.kids.length cap) 52
  have hb0 : Below w.heap.size w W := by subst hW; exact (Below.refl _ _).alloc (Nat.le_refl _) _
  try rw [hW]
  clear hW
  obtain ⟨x0, x1, x2, x3, x4, x5, x6, x7, x8⟩ := id GT0
  refine (refGlobal_any t _ W (IsGl.keep HZ.out hb0) hf).mono ?_; rw [HE.out]; rintro e w1 ⟨rfl, hq⟩
  have GT1 := GT0.keep hq GT0.lt
  have hb1 := chain hb0 hq
  clear x0 x1 x2 x3 x4 x5 x6 x7 x8 GT0
  obtain ⟨x0, x1, x2, x3, x4, x5, x6, x7, x8⟩ := id GT1
  clear hq
  go_wp2_with fail
  refine (gWrite_ok t _ w1 (IsGl.keep HZ.out hb1) hf HE.out (HSW.out.keep hb1)).mono ?_; rintro e w2 ⟨rfl, hq⟩
  obtain ⟨TX, hTX⟩ : ∃ x, gtxt t = x := ⟨_, rfl⟩
  have HTX := Lib.hid hTX
  rw [hTX]
  clear hTX
  have GT2 := GT1.keep hq GT1.lt
  have hb2 := chain hb1 hq
  clear x0 x1 x2 x3 x4 x5 x6 x7 x8 GT1
  obtain ⟨x0, x1, x2, x3, x4, x5, x6, x7, x8⟩ := id GT2
  clear hq
  go_wp2_with fail
  refine (gRoles_ok t _ w2 (IsGl.keep HZ.out hb2) hf HE.out).mono ?_; rintro e w3 ⟨hq, vr, rfl, ownR⟩
  have hst3 : StrsD (fun k => k < w3.heap.size) w3 vr (grolesOf t) := (own_strsD (D := fun _ => True) ownR fun _ _ => trivial).keep (Same.refl _ _) (fun _ _ h => h)
  obtain ⟨Ar, cr, rfl⟩ := own_form ownR
  clear ownR
  obtain ⟨GR, hGR⟩ : ∃ x, grolesOf t = x := ⟨_, rfl⟩
  have HGR := Lib.hid hGR
  rw [hGR] at hst3 ⊢
  have HRS := Lib.hid hst3
  clear hst3 hGR
  have GT3 := GT2.keep hq GT2.lt
  have hb3 := chain hb2 hq
  clear x0 x1 x2 x3 x4 x5 x6 x7 x8 GT2
  obtain ⟨x0, x1, x2, x3, x4, x5, x6, x7, x8⟩ := id GT3
  clear hq
  go_wp2_with fail
  refine (Rename_ok F T t _ _ _ w3 (IsGl.keep HZ.out hb3) hf (HF.out.keep hb3) (HT.out.keep hb3) (by rw [HLF.out]; exact hFl) (by rw [HLT.out]; exact hFl) HTS.out HFS.out HE.out HLE.out).mono ?_
  rw [HEE.out, HXX.out]
  rintro e w4 ⟨hq, v', rfl, hX⟩
  have HX := Lib.hid (GlV.here hX)
  obtain ⟨lvx, kvx, rfl, m1, m2⟩ := hX
  obtain ⟨D1, e1, rfl, -, -⟩ := m1
  obtain ⟨D2, e2, rfl, -, -⟩ := m2
  replace HRS := Lib.hid (HRS.out.below hq)
  have h34 := hq.size
  have GT4 := GT3.keep hq GT3.lt
  have hb4 := chain hb3 hq
  clear x0 x1 x2 x3 x4 x5 x6 x7 x8 GT3
  obtain ⟨x0, x1, x2, x3, x4, x5, x6, x7, x8⟩ := id GT4
  clear hq
  go_wp2_with fail
  obtain ⟨W5, hW5⟩ : ∃ x, (w4.alloc (.cells #[.int .i64 XX.kind, .string ⟨XX.frm.toArray⟩, .string ⟨XX.rcv.toArray⟩, .int .i64 XX.sort, .string ⟨XX.name.toArray⟩, .slice D1 XX.labels.length e1, .slice D2 XX.kids.length e2] 52)).alloc (.cells #[.int .i64 0, .string ⟨#[]⟩, .string ⟨#[]⟩, .int .i64 0, .string ⟨#[]⟩, .slice none 0 0, .slice none 0 0] 52) = x := ⟨_, rfl⟩
  have hq : Below w4.heap.size w4 W5 := by subst hW5; exact ((Below.refl _ _).alloc (Nat.le_refl _) _).alloc (by simp) _
  have GX : GBox W5 w4.heap.size XX (.slice D1 XX.labels.length e1) (.slice D2 XX.kids.length e2) := by subst hW5; exact (new_gval w4 XX (.slice D1 XX.labels.length e1) (.slice D2 XX.kids.length e2) 52).keep ((Below.refl _ _).alloc (Nat.le_refl _) _) (by simp)
  have GZ : GBox W5 (w4.heap.size + 1) zeroGl (.slice none 0 0) (.slice none 0 0) := by subst hW5; have := new_gbox (w4.alloc (.cells #[.int .i64 XX.kind, .string ⟨XX.frm.toArray⟩, .string ⟨XX.rcv.toArray⟩, .int .i64 XX.sort, .string ⟨XX.name.toArray⟩, .slice D1 XX.labels.length e1, .slice D2 XX.kids.length e2] 52)) 52; simpa using this
  have h5s : W5.heap.size = w4.heap.size + 2 := by subst hW5; simp
  try rw [hW5]
  clear hW5
  replace HX := Lib.hid (GlV.below HX.out hq)
  replace HRS := Lib.hid (HRS.out.below hq)
  have GT5 := GT4.keep hq GT4.lt
  have hb5 := chain hb4 hq
  clear x0 x1 x2 x3 x4 x5 x6 x7 x8 GT4
  obtain ⟨x0, x1, x2, x3, x4, x5, x6, x7, x8⟩ := id GT5
  have h4s := hb4.size
  clear hq
  have HSB : Hid (∀ w' : World, Below W5.heap.size W5 w' → (fun w' : World => w'.cell? ⟨w.heap.size, 0, none⟩ = some (.int .i64 t.kind) ∧ w'.cell? ⟨w.heap.size, 1, none⟩ = some (.string ⟨t.frm.toArray⟩) ∧ w'.cell? ⟨w.heap.size, 2, none⟩ = some (.string ⟨t.rcv.toArray⟩) ∧ w'.cell? ⟨w.heap.size, 3, none⟩ = some (.int .i64 t.sort) ∧ w'.cell? ⟨w.heap.size, 4, none⟩ = some (.string ⟨t.name.toArray⟩) ∧ w'.cell? ⟨w.heap.size, 5, none⟩ = some (.slice A0 t.labels.length p0) ∧ w'.cell? ⟨w.heap.size, 6, none⟩ = some (.slice A t.kids.length cap)) w') := Lib.hid (fun w' h => by have := GT5.keep h GT5.lt; exact ⟨this.c0, this.c1, this.c2, this.c3, this.c4, this.c5, this.c6⟩)
  have hd0 : Below W5.heap.size W5 W5.drew := (Below.refl _ _).drew
  refine wp_region_T 5 (fun w' : World => w'.cell? ⟨w.heap.size, 0, none⟩ = some (.int .i64 t.kind) ∧ w'.cell? ⟨w.heap.size, 1, none⟩ = some (.string ⟨t.frm.toArray⟩) ∧ w'.cell? ⟨w.heap.size, 2, none⟩ = some (.string ⟨t.rcv.toArray⟩) ∧ w'.cell? ⟨w.heap.size, 3, none⟩ = some (.int .i64 t.sort) ∧ w'.cell? ⟨w.heap.size, 4, none⟩ = some (.string ⟨t.name.toArray⟩) ∧ w'.cell? ⟨w.heap.size, 5, none⟩ = some (.slice A0 t.labels.length p0) ∧ w'.cell? ⟨w.heap.size, 6, none⟩ = some (.slice A t.kids.length cap)) (by kernel_rfl) ?_
  generalize W5.drew = v0 at hd0 ⊢
  refine wpT_take (i := 0) (v := ?_) rfl (by kernel_rfl) (by kernel_rfl) (by kernel_rfl) (by kernel_rfl) (fun _ _ _ h => h) (Or.inl ⟨by rfl, ?_⟩) (HSB.out _ hd0) ?_
  rotate_left
  · (intro wq hSw; obtain ⟨q0, q1, q2, q3, q4, q5, q6⟩ := hSw; go_simp; all_goals (first | (with_reducible rfl) | (rw [if_neg (by first | omega | (simp; omega) | (simp only [List.length_append, List.length_cons, List.length_nil]; omega))])))
  simp only [List.getElem_toArray, List.getElem_cons_succ, List.getElem_cons_zero, Act.put, List.setIfInBounds_toArray, List.set_cons_zero, List.set_cons_succ]
  refine wpT_take (i := 2) (v := ?_) rfl (by kernel_rfl) (by kernel_rfl) (by kernel_rfl) (by kernel_rfl) (fun _ _ _ h => h) (Or.inl ⟨by rfl, ?_⟩) (HSB.out _ hd0) ?_
  rotate_left
  · (intro wq hSw; obtain ⟨q0, q1, q2, q3, q4, q5, q6⟩ := hSw; go_simp; all_goals (first | (with_reducible rfl) | (rw [if_neg (by first | omega | (simp; omega) | (simp only [List.length_append, List.length_cons, List.length_nil]; omega))])))
  simp only [List.getElem_toArray, List.getElem_cons_succ, List.getElem_cons_zero, Act.put, List.setIfInBounds_toArray, List.set_cons_zero, List.set_cons_succ]
  refine wpT_one (i := 1) rfl (by kernel_rfl) fun K hK => ?_
  go_simp
  have htx := gtext_any (gparts t) t (.agg #[.int .i64 t.kind, .string ⟨t.frm.toArray⟩, .string ⟨t.rcv.toArray⟩, .int .i64 t.sort, .string ⟨t.name.toArray⟩, .slice A0 t.labels.length p0, .slice A t.kids.length cap]) v0 (Nat.le_refl _) hp60 (IsGl.keep HZ.out (chain hb5 hd0)) hgood
  unfold GSays at htx
  rw [HTX.out] at htx
  refine htx.mono ?_
  clear htx
  rintro e v1 ⟨rfl, hq⟩
  have hd1 := chain hd0 hq
  clear hq
  refine hK.out _ _ (fun _ => HSB.out _ hd1) ?_
  clear hK K
  try simp only [List.getElem_toArray, List.getElem_cons_succ, List.getElem_cons_zero, Act.put, List.setIfInBounds_toArray, List.set_cons_zero, List.set_cons_succ]
  refine wpT_one (i := 3) rfl (by kernel_rfl) fun K hK => ?_
  go_simp
  refine (rolesOf_any t (.agg #[.int .i64 t.kind, .string ⟨t.frm.toArray⟩, .string ⟨t.rcv.toArray⟩, .int .i64 t.sort, .string ⟨t.name.toArray⟩, .slice A0 t.labels.length p0, .slice A t.kids.length cap]) v1 hp60 (IsGl.keep HZ.out (chain hb5 hd1)) hgood).mono ?_
  rw [HGR.out]
  rintro e v2 ⟨hq, vo, rfl, ownO⟩
  have hd2 := chain hd1 hq
  have HOS : Hid (StrsD (fun k => w4.heap.size + 2 ≤ k) v2 vo GR) := Lib.hid (own_strsD ownO fun k hk => by have := hd1.size; show w4.heap.size + 2 ≤ k; omega)
  obtain ⟨Ao, co, rfl⟩ := own_form ownO
  clear hq ownO
  refine hK.out _ _ (fun _ => HSB.out _ hd2) ?_
  clear hK K
  try simp only [List.getElem_toArray, List.getElem_cons_succ, List.getElem_cons_zero, Act.put, List.setIfInBounds_toArray, List.set_cons_zero, List.set_cons_succ]
  refine wpT_one (i := 4) rfl (by kernel_rfl) fun K hK => ?_
  go_simp
  refine hK.out _ _ (fun _ => HSB.out _ hd2) ?_
  clear hK K
  try simp only [List.getElem_toArray, List.getElem_cons_succ, List.getElem_cons_zero, Act.put, List.setIfInBounds_toArray, List.set_cons_zero, List.set_cons_succ]
  refine wpT_one (i := 5) rfl (by kernel_rfl) fun K hK => ?_
  go_simp
  refine hK.out _ _ (fun h => absurd h (by decide)) ?_
  clear hK K
  try simp only [List.getElem_toArray, List.getElem_cons_succ, List.getElem_cons_zero, Act.put, List.setIfInBounds_toArray, List.set_cons_zero, List.set_cons_succ]
  refine wpT_done (by kernel_rfl) ?_
  have hb6 := chain hb5 hd2
  have GT6 := GT5.keep hd2 GT5.lt
  have GX6 := GX.keep hd2 GX.lt
  have GZ6 := GZ.keep hd2 GZ.lt
  replace HX := Lib.hid (GlV.below HX.out hd2)
  replace HRS := Lib.hid (HRS.out.below hd2)
  clear hd0 hd1 hd2 HSB GX GZ GT5 x0 x1 x2 x3 x4 x5 x6 x7 x8
  have hGR8 : GR.length ≤ 1000 := by
    rw [← HGR.out]
    have := List.length_filter_le (fun r => gspk r t) letters
    have h2 : letters.length = 8 := rfl
    unfold grolesOf
    omega
  go_wp2_with fail
  go_loopw [18, 15] (fun i j wr => ∃ q : Nat, q ≤ L ∧ i = .int .i64 q ∧ j = .int .i64 (if prsUp F T q = true then 0 else 1) ∧ Below v2.heap.size v2 wr) (fun i _ _ => L - (intOf i).toNat)
  case atStart => exact ⟨0, by omega, rfl, by simp [prsUp], Below.refl _ _⟩
  case round =>
    obtain ⟨q, hq, rfl, rfl, hbN⟩ := hrel
    cases hpr : prsUp F T q with
    | false =>
      rw [if_neg (by simp)]
      have HPR := Lib.hid hpr
      clear hpr
      have hEE1 : EE = 1 := by
        rw [← HEE.out]
        unfold renE
        rw [HE.out, if_neg (by simp), if_pos HLE.out, prsUp_mono (by rw [HLF.out]; exact hq) HPR.out]
        simp
      subst hEE1
      have hXX1 : XX = zeroGl := by rw [← HXX.out]; exact renR_bad HEE.out (by decide)
      have HXZ := Lib.hid hXX1
      clear hXX1
      replace GT6 := GT6.keep hbN GT6.lt
      replace GX6 := GX6.keep hbN GX6.lt
      replace GZ6 := GZ6.keep hbN GZ6.lt
      replace hb6 := chain hb6 hbN
      replace HX := Lib.hid (GlV.below HX.out hbN)
      replace HRS := Lib.hid (HRS.out.below hbN)
      replace HOS := Lib.hid (HOS.out.below hbN)
      clear hbN
      have hL0 : q < L ∨ ¬ q < L := Decidable.em _
      rcases hL0 with hL0 | hL0
      all_goals
        obtain ⟨x0, x1, x2, x3, x4, x5, x6, x7, x8⟩ := id GT6
        go_wp2_with fail
        refine (gCheck_any t _ wr (IsGl.keep HZ.out hb6) hf).mono ?_; rw [HE.out]; rintro e w7 ⟨rfl, hq⟩
        have GX7 := GX6.keep hq GX6.lt
        have GZ7 := GZ6.keep hq GZ6.lt
        have hb7 := chain hb6 hq
        replace HX := Lib.hid (GlV.below HX.out hq)
        replace HRS := Lib.hid (HRS.out.below hq)
        replace HOS := Lib.hid (HOS.out.below hq)
        clear hq x0 x1 x2 x3 x4 x5 x6 x7 x8
        go_wp2_with fail
        refine (text_any TX TX 0 0 w7 ⟨fun h => absurd rfl h, fun _ => ⟨rfl, rfl⟩⟩).mono ?_; rintro e w8 ⟨rfl, rfl⟩
        go_wp2_with fail
        refine (list_ok GR _ _ w8 HRS.out.is HOS.out.is hGR8).mono ?_; rintro e w9 ⟨rfl, hq⟩
        obtain ⟨y0, y1, y2, y3, y4, y5, y6, y7, y8⟩ := GX7.keep hq GX7.lt
        obtain ⟨z0, z1, z2, z3, z4, z5, z6, z7, z8⟩ := GZ7.keep hq GZ7.lt
        have hb9 := chain hb7 hq
        replace HX := Lib.hid (GlV.below HX.out hq)
        clear hq
        simp only [Gl.kind, Gl.frm, Gl.rcv, Gl.sort, Gl.name, zeroGl] at z0 z1 z2 z3 z4
        go_wp2_with fail
        refine (sameGlobal_any (gparts XX) XX _ _ w9 (Nat.le_refl _) (by rw [HXZ.out]; exact gfit_zero) (GlV.all HX.out) (by rw [HXZ.out]; exact zero_gl _ _)).mono ?_
        rintro e w10 ⟨rfl, hq9⟩
        have hb10 := chain hb9 hq9
        clear hq9 y0 y1 y2 y3 y4 y5 y6 y7 y8 z0 z1 z2 z3 z4 z5 z6 z7 z8
        go_wp2_with fail
        go_ret
        exact ⟨rfl, hb10⟩
    | true =>
      rw [if_pos rfl]
      have HPR := Lib.hid hpr
      clear hpr
      by_cases hlt : q < L
      · obtain ⟨f', hf'⟩ : ∃ x, F[q]? = some x := ⟨_, List.getElem?_eq_getElem (by rw [HLF.out]; exact hlt)⟩
        obtain ⟨t', ht'⟩ : ∃ x, T[q]? = some x := ⟨_, List.getElem?_eq_getElem (by rw [HLT.out]; exact hlt)⟩
        have HFD : Hid (F.getD q [] = f') := Lib.hid (by rw [List.getD_eq_getElem?_getD, hf']; rfl)
        have HTD : Hid (T.getD q [] = t') := Lib.hid (by rw [List.getD_eq_getElem?_getD, ht']; rfl)
        have hbw : Below w.heap.size w wr := chain hb6 hbN
        obtain ⟨_, _, eF, hcF, hrF⟩ := HF.out
        obtain ⟨bF, oF, rfl, hrowF⟩ := hrF (by rw [HLF.out]; omega)
        injection eF with eF1 eF2 eF3
        subst eF1 eF3
        clear eF2
        obtain ⟨_, _, eT, hcT, hrT⟩ := HT.out
        obtain ⟨bT, oT, rfl, hrowT⟩ := hrT (by rw [HLT.out]; omega)
        injection eT with eT1 eT2 eT3
        subst eT1 eT3
        clear eT2
        have cF' := cell_keep (hrowF q f' hf') hbw
        have cT' := cell_keep (hrowT q t' ht') hbw
        have HRF := Lib.hid hrowF
        have HFq := Lib.hid hf'
        clear hrowF hrowT hrF hrT hf' ht' hcF hcT
        go_wp2_with fail
        refine (refIsRole_any f' wr).mono ?_
        cases hb1 : isRole f' with
        | false =>
          rintro e wz ⟨rfl, hq1⟩
          have hbx := chain hbN hq1
          have HB : Hid ((isRole f' && isRole t') = false) := Lib.hid (by rw [hb1]; rfl)
          clear hb1
          go_wp2_with fail
          go_loopw [76, 15] (fun i2 j wr => ∃ p : Nat, p ≤ q ∧ i2 = .int .i64 p ∧ j = .int .i64 (if (false && !(decide (f' ∈ F.take p))) = true then 0 else 1) ∧ Below v2.heap.size v2 wr) (fun i _ _ => q - (intOf i).toNat)
          case atStart => exact ⟨0, by omega, rfl, by simp, hbx⟩
          case round =>
            obtain ⟨p, hp, rfl, rfl, hbP⟩ := hrel
            obtain ⟨JV, hJV⟩ : ∃ x : Int, (if (false && !(decide (f' ∈ F.take p))) = true then 0 else 1) = x := ⟨_, rfl⟩
            rw [hJV]
            have HJV := Lib.hid hJV
            clear hJV
            by_cases hpq : p < q
            · obtain ⟨x, hx⟩ : ∃ x, F[p]? = some x := ⟨_, List.getElem?_eq_getElem (by rw [HLF.out]; omega)⟩
              have cP := cell_keep (HRF.out p x hx) (chain hb6 hbP)
              have cQ := cell_keep (HRF.out q f' HFq.out) (chain hb6 hbP)
              have hpL : p < L := by omega
              have htk : Hid (∀ z, z ∈ F.take (p + 1) ↔ z ∈ F.take p ∨ z = x) := Lib.hid (fun z => by rw [List.take_add_one, hx]; simp)
              clear hx
              cases hxe : (x == f') with
              | true =>
                have e2 : Hid ((if (false && !(decide (f' ∈ F.take (p + 1)))) = true then (0 : Int) else 1) = 1) := Lib.hid (by
                  have h1 : f' ∈ F.take (p + 1) := (htk.out f').2 (.inr (by simpa using hxe : x = f').symm)
                  simp [h1])
                go_wp2_with fail
                go_quiet (fail)
                have hb2p := below_drewN hbP nq
                generalize _root_.Go.World.drewN _ nq = w2p at hb2p ⊢
                clear cP cQ
                go_wp2_with fail
                go_roundw
                case rel => exact ⟨p + 1, by omega, by go_num, by rw [e2.out], hb2p⟩
                case measure => simp [intOf]; omega
              | false =>
                have e2 : Hid ((if (false && !(decide (f' ∈ F.take (p + 1)))) = true then (0 : Int) else 1) = JV) := Lib.hid (by
                  have hne : ¬ f' = x := fun e => by subst e; simp at hxe
                  have h1 : decide (f' ∈ F.take (p + 1)) = decide (f' ∈ F.take p) := by rw [decide_eq_decide, htk.out]; simp [hne]
                  rw [h1, HJV.out])
                go_wp2_with fail
                go_quiet (fail)
                have hb2p := below_drewN hbP nq
                generalize _root_.Go.World.drewN _ nq = w2p at hb2p ⊢
                clear cP cQ
                go_wp2_with fail
                go_roundw
                case rel => exact ⟨p + 1, by omega, by go_num, by rw [e2.out], hb2p⟩
                case measure => simp [intOf]; omega
            · have hpe : p = q := by omega
              subst hpe
              have e4 : Hid ((if prsUp F T (p + 1) = true then (0 : Int) else 1) = JV) := Lib.hid (by
                simp only [prsUp, HFD.out, HTD.out, HPR.out, HB.out, Bool.true_and]
                exact HJV.out)
              clear hpq
              go_wp2_with fail
              go_roundw
              case rel => exact ⟨p + 1, by omega, by go_num, by rw [e4.out], hbP⟩
              case measure => simp [intOf]; omega
        | true =>
          rintro e wy ⟨rfl, hq1⟩
          have hby := chain hbN hq1
          have cT2 := cell_keep cT' hq1
          go_wp2_with fail
          refine (refIsRole_any t' wy).mono ?_
          cases hb2 : isRole t' with
          | false =>
            rintro e wz ⟨rfl, hq2⟩
            have hbx := chain hby hq2
            have HB : Hid ((isRole f' && isRole t') = false) := Lib.hid (by rw [hb1, hb2]; rfl)
            clear hb1 hb2
            go_wp2_with fail
            go_loopw [76, 15] (fun i2 j wr => ∃ p : Nat, p ≤ q ∧ i2 = .int .i64 p ∧ j = .int .i64 (if (false && !(decide (f' ∈ F.take p))) = true then 0 else 1) ∧ Below v2.heap.size v2 wr) (fun i _ _ => q - (intOf i).toNat)
            case atStart => exact ⟨0, by omega, rfl, by simp, hbx⟩
            case round =>
              obtain ⟨p, hp, rfl, rfl, hbP⟩ := hrel
              obtain ⟨JV, hJV⟩ : ∃ x : Int, (if (false && !(decide (f' ∈ F.take p))) = true then 0 else 1) = x := ⟨_, rfl⟩
              rw [hJV]
              have HJV := Lib.hid hJV
              clear hJV
              by_cases hpq : p < q
              · obtain ⟨x, hx⟩ : ∃ x, F[p]? = some x := ⟨_, List.getElem?_eq_getElem (by rw [HLF.out]; omega)⟩
                have cP := cell_keep (HRF.out p x hx) (chain hb6 hbP)
                have cQ := cell_keep (HRF.out q f' HFq.out) (chain hb6 hbP)
                have hpL : p < L := by omega
                have htk : Hid (∀ z, z ∈ F.take (p + 1) ↔ z ∈ F.take p ∨ z = x) := Lib.hid (fun z => by rw [List.take_add_one, hx]; simp)
                clear hx
                cases hxe : (x == f') with
                | true =>
                  have e2 : Hid ((if (false && !(decide (f' ∈ F.take (p + 1)))) = true then (0 : Int) else 1) = 1) := Lib.hid (by
                    have h1 : f' ∈ F.take (p + 1) := (htk.out f').2 (.inr (by simpa using hxe : x = f').symm)
                    simp [h1])
                  go_wp2_with fail
                  go_quiet (fail)
                  have hb2p := below_drewN hbP nq
                  generalize _root_.Go.World.drewN _ nq = w2p at hb2p ⊢
                  clear cP cQ
                  go_wp2_with fail
                  go_roundw
                  case rel => exact ⟨p + 1, by omega, by go_num, by rw [e2.out], hb2p⟩
                  case measure => simp [intOf]; omega
                | false =>
                  have e2 : Hid ((if (false && !(decide (f' ∈ F.take (p + 1)))) = true then (0 : Int) else 1) = JV) := Lib.hid (by
                    have hne : ¬ f' = x := fun e => by subst e; simp at hxe
                    have h1 : decide (f' ∈ F.take (p + 1)) = decide (f' ∈ F.take p) := by rw [decide_eq_decide, htk.out]; simp [hne]
                    rw [h1, HJV.out])
                  go_wp2_with fail
                  go_quiet (fail)
                  have hb2p := below_drewN hbP nq
                  generalize _root_.Go.World.drewN _ nq = w2p at hb2p ⊢
                  clear cP cQ
                  go_wp2_with fail
                  go_roundw
                  case rel => exact ⟨p + 1, by omega, by go_num, by rw [e2.out], hb2p⟩
                  case measure => simp [intOf]; omega
              · have hpe : p = q := by omega
                subst hpe
                have e4 : Hid ((if prsUp F T (p + 1) = true then (0 : Int) else 1) = JV) := Lib.hid (by
                  simp only [prsUp, HFD.out, HTD.out, HPR.out, HB.out, Bool.true_and]
                  exact HJV.out)
                clear hpq
                go_wp2_with fail
                go_roundw
                case rel => exact ⟨p + 1, by omega, by go_num, by rw [e4.out], hbP⟩
                case measure => simp [intOf]; omega
          | true =>
            rintro e wz ⟨rfl, hq2⟩
            have hbx := chain hby hq2
            have HB : Hid ((isRole f' && isRole t') = true) := Lib.hid (by rw [hb1, hb2]; rfl)
            clear hb1 hb2
            go_wp2_with fail
            go_loopw [76, 15] (fun i2 j wr => ∃ p : Nat, p ≤ q ∧ i2 = .int .i64 p ∧ j = .int .i64 (if (true && !(decide (f' ∈ F.take p))) = true then 0 else 1) ∧ Below v2.heap.size v2 wr) (fun i _ _ => q - (intOf i).toNat)
            case atStart => exact ⟨0, by omega, rfl, by simp, hbx⟩
            case round =>
              obtain ⟨p, hp, rfl, rfl, hbP⟩ := hrel
              obtain ⟨JV, hJV⟩ : ∃ x : Int, (if (true && !(decide (f' ∈ F.take p))) = true then 0 else 1) = x := ⟨_, rfl⟩
              rw [hJV]
              have HJV := Lib.hid hJV
              clear hJV
              by_cases hpq : p < q
              · obtain ⟨x, hx⟩ : ∃ x, F[p]? = some x := ⟨_, List.getElem?_eq_getElem (by rw [HLF.out]; omega)⟩
                have cP := cell_keep (HRF.out p x hx) (chain hb6 hbP)
                have cQ := cell_keep (HRF.out q f' HFq.out) (chain hb6 hbP)
                have hpL : p < L := by omega
                have htk : Hid (∀ z, z ∈ F.take (p + 1) ↔ z ∈ F.take p ∨ z = x) := Lib.hid (fun z => by rw [List.take_add_one, hx]; simp)
                clear hx
                cases hxe : (x == f') with
                | true =>
                  have e2 : Hid ((if (true && !(decide (f' ∈ F.take (p + 1)))) = true then (0 : Int) else 1) = 1) := Lib.hid (by
                    have h1 : f' ∈ F.take (p + 1) := (htk.out f').2 (.inr (by simpa using hxe : x = f').symm)
                    simp [h1])
                  go_wp2_with fail
                  go_quiet (fail)
                  have hb2p := below_drewN hbP nq
                  generalize _root_.Go.World.drewN _ nq = w2p at hb2p ⊢
                  clear cP cQ
                  go_wp2_with fail
                  go_roundw
                  case rel => exact ⟨p + 1, by omega, by go_num, by rw [e2.out], hb2p⟩
                  case measure => simp [intOf]; omega
                | false =>
                  have e2 : Hid ((if (true && !(decide (f' ∈ F.take (p + 1)))) = true then (0 : Int) else 1) = JV) := Lib.hid (by
                    have hne : ¬ f' = x := fun e => by subst e; simp at hxe
                    have h1 : decide (f' ∈ F.take (p + 1)) = decide (f' ∈ F.take p) := by rw [decide_eq_decide, htk.out]; simp [hne]
                    rw [h1, HJV.out])
                  go_wp2_with fail
                  go_quiet (fail)
                  have hb2p := below_drewN hbP nq
                  generalize _root_.Go.World.drewN _ nq = w2p at hb2p ⊢
                  clear cP cQ
                  go_wp2_with fail
                  go_roundw
                  case rel => exact ⟨p + 1, by omega, by go_num, by rw [e2.out], hb2p⟩
                  case measure => simp [intOf]; omega
              · have hpe : p = q := by omega
                subst hpe
                have e4 : Hid ((if prsUp F T (p + 1) = true then (0 : Int) else 1) = JV) := Lib.hid (by
                  simp only [prsUp, HFD.out, HTD.out, HPR.out, HB.out, Bool.true_and]
                  exact HJV.out)
                clear hpq
                go_wp2_with fail
                go_roundw
                case rel => exact ⟨p + 1, by omega, by go_num, by rw [e4.out], hbP⟩
                case measure => simp [intOf]; omega
      · have hqL : q = L := by omega
        subst hqL
        clear hlt
        have HEQ : Hid (EE = if glErr (rnG F T t) = 0 then 0 else 4) := Lib.hid (by
          rw [← HEE.out]
          unfold renE
          rw [HE.out, if_neg (by simp), if_pos HLE.out, HLF.out, if_pos HPR.out])
        have hn : ∀ (i : Nat) f, F[i]? = some f → f ∉ F.take i := fun i f hi => by
          have h1 := (List.getElem?_eq_some_iff.1 hi).1
          have h2 := (prsUp_at HPR.out (i := i) (by rw [← HLF.out]; exact h1)).2.2
          rw [List.getD_eq_getElem?_getD, hi] at h2
          exact h2
        replace GT6 := GT6.keep hbN GT6.lt
        replace GX6 := GX6.keep hbN GX6.lt
        replace GZ6 := GZ6.keep hbN GZ6.lt
        replace hb6 := chain hb6 hbN
        replace HX := Lib.hid (GlV.below HX.out hbN)
        replace HRS := Lib.hid (HRS.out.below hbN)
        replace HOS := Lib.hid (HOS.out.below hbN)
        clear hbN
        have hsm : Same (· < w.heap.size) w wr := fun b hb _ => hb6.block b hb
        have hcall := Renamed_any F T HLE.out (by rw [HLF.out]; exact hFl) hn w.heap.size (gparts t) t (.agg #[.int .i64 t.kind, .string ⟨t.frm.toArray⟩, .string ⟨t.rcv.toArray⟩, .int .i64 t.sort, .string ⟨t.name.toArray⟩, .slice A0 t.labels.length p0, .slice A t.kids.length cap]) (.slice AF q cF) (.slice AT q cT) wr (Nat.le_refl _) hgood hb6.size ((GlV.here HZ.out).keep hsm (fun _ h _ => h)) ((HF.out.toD.keep (D' := (· < w.heap.size)) (Same.refl _ _) (fun _ _ h => h)).keep hsm (fun _ h _ => h)) ((HT.out.toD.keep (D' := (· < w.heap.size)) (Same.refl _ _) (fun _ _ h => h)).keep hsm (fun _ h _ => h))
        unfold ASays at hcall
        have hfitU := rnG_fit F T HTS.out t hf
        obtain ⟨U, hU⟩ : ∃ x, rnG F T t = x := ⟨_, rfl⟩
        have hXU : EE = 0 → XX = U := fun h => by rw [← HXX.out, ← hU]; unfold renR; rw [HEE.out, if_pos h]
        rw [hU] at hcall hfitU HEQ
        have HXU := Lib.hid hXU
        have HCA := Lib.hid hcall
        clear hcall hU hsm hn hXU
        obtain ⟨x0, x1, x2, x3, x4, x5, x6, x7, x8⟩ := id GT6
        obtain ⟨z0, z1, z2, z3, z4, z5, z6, z7, z8⟩ := id GZ6
        simp only [Gl.kind, Gl.frm, Gl.rcv, Gl.sort, Gl.name, zeroGl] at z0 z1 z2 z3 z4
        go_wp2_with fail
        refine HCA.out.mono ?_
        rintro e wu ⟨hqu, vu, rfl, hUV⟩
        have GT7 := GT6.keep hqu GT6.lt
        have GX7 := GX6.keep hqu GX6.lt
        have GZ7 := GZ6.keep hqu GZ6.lt
        have hb7 := chain hb6 hqu
        have hsu := hqu.size
        replace HX := Lib.hid (GlV.below HX.out hqu)
        replace HRS := Lib.hid (HRS.out.below hqu)
        replace HOS := Lib.hid (HOS.out.below hqu)
        have hZlt := GZ6.lt
        obtain ⟨lvu, kvu, rfl, m1, m2⟩ := hUV
        have M1 := Lib.hid m1
        have M2 := Lib.hid m2
        obtain ⟨D3, e3, rfl, -, -⟩ := m1
        obtain ⟨D4, e4, rfl, -, -⟩ := m2
        clear x0 x1 x2 x3 x4 x5 x6 x7 x8 z0 z1 z2 z3 z4 z5 z6 z7 z8 HCA
        obtain ⟨x0, x1, x2, x3, x4, x5, x6, x7, x8⟩ := id GT7
        obtain ⟨z0, z1, z2, z3, z4, z5, z6, z7, z8⟩ := id GZ7
        simp only [Gl.kind, Gl.frm, Gl.rcv, Gl.sort, Gl.name, zeroGl] at z0 z1 z2 z3 z4
        go_wp2_with fail
        have GU := GZ7.fill U (.slice D3 U.labels.length e3) (.slice D4 U.kids.length e4)
        have hbl := below_fill7 (Below.refl (w4.heap.size + 1) wu) (b := w4.heap.size + 1) (Nat.le_refl _) (.int .i64 U.kind) (.string ⟨U.frm.toArray⟩) (.string ⟨U.rcv.toArray⟩) (.int .i64 U.sort) (.string ⟨U.name.toArray⟩) (.slice D3 U.labels.length e3) (.slice D4 U.kids.length e4)
        have hbc := hb7.trans (hbl.mono (by omega))
        have GT8 := GT7.keep hbl (by omega)
        have GX8 := GX7.keep hbl (by omega)
        have hX8 := HX.out.keep (Same.fill7 (b := w4.heap.size + 1) (by show ¬ (_ < _); omega) (.int .i64 U.kind) (.string ⟨U.frm.toArray⟩) (.string ⟨U.rcv.toArray⟩) (.int .i64 U.sort) (.string ⟨U.name.toArray⟩) (.slice D3 U.labels.length e3) (.slice D4 U.kids.length e4)) (fun _ h _ => h)
        have hR8 := HRS.out.keep (Same.fill7 (b := w4.heap.size + 1) (by show ¬ (_ < _); omega) (.int .i64 U.kind) (.string ⟨U.frm.toArray⟩) (.string ⟨U.rcv.toArray⟩) (.int .i64 U.sort) (.string ⟨U.name.toArray⟩) (.slice D3 U.labels.length e3) (.slice D4 U.kids.length e4)) (fun _ h _ => h)
        have hO8 := HOS.out.keep (Same.fill7 (b := w4.heap.size + 1) (by show ¬ (_ ≤ _); omega) (.int .i64 U.kind) (.string ⟨U.frm.toArray⟩) (.string ⟨U.rcv.toArray⟩) (.int .i64 U.sort) (.string ⟨U.name.toArray⟩) (.slice D3 U.labels.length e3) (.slice D4 U.kids.length e4)) (fun _ h _ => h)
        have N1 := M1.out.keep (D' := All) (Same.fill7 (b := w4.heap.size + 1) (by show ¬ (_ ∨ _); omega) (.int .i64 U.kind) (.string ⟨U.frm.toArray⟩) (.string ⟨U.rcv.toArray⟩) (.int .i64 U.sort) (.string ⟨U.name.toArray⟩) (.slice D3 U.labels.length e3) (.slice D4 U.kids.length e4)) (fun _ _ _ => trivial)
        have N2 := M2.out.keep (D' := All) (Same.fill7 (b := w4.heap.size + 1) (by show ¬ (_ ∨ _); omega) (.int .i64 U.kind) (.string ⟨U.frm.toArray⟩) (.string ⟨U.rcv.toArray⟩) (.int .i64 U.sort) (.string ⟨U.name.toArray⟩) (.slice D3 U.labels.length e3) (.slice D4 U.kids.length e4)) (fun _ _ _ => trivial)
        generalize (((((((wu.setCell ⟨w4.heap.size + 1, 0, none⟩ (.int .i64 U.kind)).setCell ⟨w4.heap.size + 1, 1, none⟩ (.string ⟨U.frm.toArray⟩)).setCell ⟨w4.heap.size + 1, 2, none⟩ (.string ⟨U.rcv.toArray⟩)).setCell ⟨w4.heap.size + 1, 3, none⟩ (.int .i64 U.sort)).setCell ⟨w4.heap.size + 1, 4, none⟩ (.string ⟨U.name.toArray⟩)).setCell ⟨w4.heap.size + 1, 5, none⟩ (.slice D3 U.labels.length e3)).setCell ⟨w4.heap.size + 1, 6, none⟩ (.slice D4 U.kids.length e4)) = wc at GU hbl hbc GT8 GX8 hX8 hR8 hO8 N1 N2 ⊢
        have HUV : Hid (IsGl wc _ U) := Lib.hid (glV_of N1 N2)
        clear HX HRS HOS N1 N2 M1 M2 x0 x1 x2 x3 x4 x5 x6 x7 x8 z0 z1 z2 z3 z4 z5 z6 z7 z8 hbl
        refine (refGlobal_any U _ wc HUV.out hfitU).mono ?_
        obtain ⟨E2, hE2⟩ : ∃ x, glErr U = x := ⟨_, rfl⟩
        have hEQ := HEQ.out
        rw [hE2] at hEQ ⊢
        clear hE2
        rintro e wd ⟨rfl, hqd⟩
        have GT6 := GT8.keep hqd GT8.lt
        have GX6 := GX8.keep hqd GX8.lt
        have GZ6 := GU.keep hqd GU.lt
        have hb6 := chain hbc hqd
        have HX := Lib.hid (GlV.below hX8 hqd)
        have HRS := Lib.hid (hR8.below hqd)
        have HOS := Lib.hid (hO8.below hqd)
        replace HUV := Lib.hid (IsGl.keep HUV.out hqd)
        clear hX8 hR8 hO8 hqd
        by_cases h0 : E2 = 0
        case pos =>
          subst h0
          rw [if_pos rfl] at hEQ
          have hXU := HXU.out hEQ
          subst hEQ
          have HXU2 := Lib.hid hXU
          clear hXU
          obtain ⟨x0, x1, x2, x3, x4, x5, x6, x7, x8⟩ := id GT6
          go_wp2_with fail
          refine (gCheck_any t _ wd (IsGl.keep HZ.out hb6) hf).mono ?_; rw [HE.out]; rintro e w7 ⟨rfl, hq⟩
          have GX7 := GX6.keep hq GX6.lt
          have GZ7 := GZ6.keep hq GZ6.lt
          have hb7 := chain hb6 hq
          replace HX := Lib.hid (GlV.below HX.out hq)
          replace HRS := Lib.hid (HRS.out.below hq)
          replace HOS := Lib.hid (HOS.out.below hq)
          replace HUV := Lib.hid (IsGl.keep HUV.out hq)
          clear hq x0 x1 x2 x3 x4 x5 x6 x7 x8
          go_wp2_with fail
          refine (text_any TX TX 0 0 w7 ⟨fun h => absurd rfl h, fun _ => ⟨rfl, rfl⟩⟩).mono ?_; rintro e w8 ⟨rfl, rfl⟩
          go_wp2_with fail
          refine (list_ok GR _ _ w8 HRS.out.is HOS.out.is hGR8).mono ?_; rintro e w9 ⟨rfl, hq⟩
          obtain ⟨y0, y1, y2, y3, y4, y5, y6, y7, y8⟩ := GX7.keep hq GX7.lt
          obtain ⟨z0, z1, z2, z3, z4, z5, z6, z7, z8⟩ := GZ7.keep hq GZ7.lt
          have hb9 := chain hb7 hq
          replace HX := Lib.hid (GlV.below HX.out hq)
          replace HUV := Lib.hid (IsGl.keep HUV.out hq)
          clear hq
          go_wp2_with fail
          refine (sameGlobal_any (gparts XX) XX _ _ w9 (Nat.le_refl _) (by rw [HXU2.out]; exact hfitU) (GlV.all HX.out) (by rw [HXU2.out]; exact HUV.out)).mono ?_
          rintro e w10 ⟨rfl, hq9⟩
          have hb10 := chain hb9 hq9
          clear hq9 y0 y1 y2 y3 y4 y5 y6 y7 y8 z0 z1 z2 z3 z4 z5 z6 z7 z8
          go_wp2_with fail
          go_ret
          exact ⟨rfl, hb10⟩
        case neg =>
          have hne2 : (E2 != 0) = true := by rw [bne_iff_ne]; exact h0
          rw [if_neg h0] at hEQ
          clear h0
          subst hEQ
          have hXX1 : XX = zeroGl := by rw [← HXX.out]; exact renR_bad HEE.out (by decide)
          have HXZ := Lib.hid hXX1
          clear hXX1
          obtain ⟨x0, x1, x2, x3, x4, x5, x6, x7, x8⟩ := id GT6
          obtain ⟨z0, z1, z2, z3, z4, z5, z6, z7, z8⟩ := id GZ6
          go_wp2_with fail
          have GZ8 := GZ6.fill zeroGl (.slice none 0 0) (.slice none 0 0)
          simp only [Gl.kind, Gl.frm, Gl.rcv, Gl.sort, Gl.name, zeroGl] at GZ8
          have hbl := below_fill7 (Below.refl (w4.heap.size + 1) wd) (b := w4.heap.size + 1) (Nat.le_refl _) (.int .i64 0) (.string ⟨#[]⟩) (.string ⟨#[]⟩) (.int .i64 0) (.string ⟨#[]⟩) (.slice none 0 0) (.slice none 0 0)
          have hbe := hb6.trans (hbl.mono (by omega))
          have GT9 := GT6.keep hbl (by omega)
          have GX9 := GX6.keep hbl (by omega)
          have hX9 := HX.out.keep (Same.fill7 (b := w4.heap.size + 1) (by show ¬ (_ < _); omega) (.int .i64 0) (.string ⟨#[]⟩) (.string ⟨#[]⟩) (.int .i64 0) (.string ⟨#[]⟩) (.slice none 0 0) (.slice none 0 0)) (fun _ h _ => h)
          have hR9 := HRS.out.keep (Same.fill7 (b := w4.heap.size + 1) (by show ¬ (_ < _); omega) (.int .i64 0) (.string ⟨#[]⟩) (.string ⟨#[]⟩) (.int .i64 0) (.string ⟨#[]⟩) (.slice none 0 0) (.slice none 0 0)) (fun _ h _ => h)
          have hO9 := HOS.out.keep (Same.fill7 (b := w4.heap.size + 1) (by show ¬ (_ ≤ _); omega) (.int .i64 0) (.string ⟨#[]⟩) (.string ⟨#[]⟩) (.int .i64 0) (.string ⟨#[]⟩) (.slice none 0 0) (.slice none 0 0)) (fun _ h _ => h)
          generalize (((((((wd.setCell ⟨w4.heap.size + 1, 0, none⟩ (.int .i64 0)).setCell ⟨w4.heap.size + 1, 1, none⟩ (.string ⟨#[]⟩)).setCell ⟨w4.heap.size + 1, 2, none⟩ (.string ⟨#[]⟩)).setCell ⟨w4.heap.size + 1, 3, none⟩ (.int .i64 0)).setCell ⟨w4.heap.size + 1, 4, none⟩ (.string ⟨#[]⟩)).setCell ⟨w4.heap.size + 1, 5, none⟩ (.slice none 0 0)).setCell ⟨w4.heap.size + 1, 6, none⟩ (.slice none 0 0)) = we at GZ8 hbl hbe GT9 GX9 hX9 hR9 hO9 ⊢
          clear x0 x1 x2 x3 x4 x5 x6 x7 x8 z0 z1 z2 z3 z4 z5 z6 z7 z8 hbl HX HRS HOS HUV GT6 GX6 GZ6 hb6
          have HX := Lib.hid hX9
          have HRS := Lib.hid hR9
          have HOS := Lib.hid hO9
          clear hX9 hR9 hO9
          refine (gCheck_any t _ we (IsGl.keep HZ.out hbe) hf).mono ?_; rw [HE.out]; rintro e w7 ⟨rfl, hq⟩
          have GX7 := GX9.keep hq GX9.lt
          have GZ7 := GZ8.keep hq GZ8.lt
          have hb7 := chain hbe hq
          replace HX := Lib.hid (GlV.below HX.out hq)
          replace HRS := Lib.hid (HRS.out.below hq)
          replace HOS := Lib.hid (HOS.out.below hq)
          clear hq
          go_wp2_with fail
          refine (text_any TX TX 0 0 w7 ⟨fun h => absurd rfl h, fun _ => ⟨rfl, rfl⟩⟩).mono ?_; rintro e w8 ⟨rfl, rfl⟩
          go_wp2_with fail
          refine (list_ok GR _ _ w8 HRS.out.is HOS.out.is hGR8).mono ?_; rintro e w9 ⟨rfl, hq⟩
          obtain ⟨y0, y1, y2, y3, y4, y5, y6, y7, y8⟩ := GX7.keep hq GX7.lt
          obtain ⟨z0, z1, z2, z3, z4, z5, z6, z7, z8⟩ := GZ7.keep hq GZ7.lt
          have hb9 := chain hb7 hq
          replace HX := Lib.hid (GlV.below HX.out hq)
          clear hq
          simp only [Gl.kind, Gl.frm, Gl.rcv, Gl.sort, Gl.name, zeroGl] at z0 z1 z2 z3 z4
          go_wp2_with fail
          refine (sameGlobal_any (gparts XX) XX _ _ w9 (Nat.le_refl _) (by rw [HXZ.out]; exact gfit_zero) (GlV.all HX.out) (by rw [HXZ.out]; exact zero_gl _ _)).mono ?_
          rintro e w10 ⟨rfl, hq9⟩
          have hb10 := chain hb9 hq9
          clear hq9 y0 y1 y2 y3 y4 y5 y6 y7 y8 z0 z1 z2 z3 z4 z5 z6 z7 z8
          go_wp2_with fail
          go_ret
          exact ⟨rfl, hb10⟩
end Go.Proofs.YtgnkncfnkjeinaaDoor
