/-
  The law TypesSays returns true whatever type is handed in.
-/
import Derived.Test.YtcacembpegoghaaDoorTyU2
import Derived.Test.YtcacembpegoghaaDoorTyZ
import Derived.Test.YtcacembpegoghaaDoorTyW
namespace Go.Proofs.YtcacembpegoghaaDoor
open Go.RowKit Go.Proofs
set_option maxRecDepth 100000

theorem fit_no : Fit noTy := .mk 0 0 [] [] [] (by decide) (by decide) (by simp) (by simp) (by simp) (by simp) (by simp)

set_option maxHeartbeats 2000000 in
theorem typed_ok (a : Ty) (va vb : Value) (w : World) (hf : Fit a) (ha : IsTy w va a) (hb : IsTy w vb a) :
    Calls Tryd.prog 45 #[va, .int .i64 0, vb, .int .i64 0] w fun r w' => r = .returned (.bool true) ∧ Below w.heap.size w w' := by
  have HA := Lib.hid ha; have HB := Lib.hid hb
  obtain ⟨lv, kv, rfl, h1, h2⟩ := ha
  obtain ⟨A0, p0, rfl, -, -⟩ := h1
  obtain ⟨A, cap, rfl, -, -⟩ := h2
  obtain ⟨lv', kv', rfl, h3, h4⟩ := hb
  obtain ⟨A0', p0', rfl, -, -⟩ := h3
  obtain ⟨A', cap', rfl, -, -⟩ := h4
  go_enter Tryd.func45, Tryd.ntmps45
  go_wp2_with fail
  refine (sameType_any (parts a) a _ _ _ (Nat.le_refl _) hf (HA.out.keep (by go_grown)) (HB.out.keep (by go_grown))).mono ?_
  rintro e w1 ⟨rfl, hb1⟩
  go_wp2_with fail
  go_ret
  exact ⟨rfl, chain (by go_grown) hb1⟩
set_option maxHeartbeats 2000000 in
theorem typed_bad (f : Int) (b : Ty) (va vb : Value) (w : World) (hf : f ≠ 0) (ha : IsTy w va noTy) (hb : IsTy w vb b) :
    Calls Tryd.prog 45 #[va, .int .i64 f, vb, .int .i64 f] w fun r w' => r = .returned (.bool true) ∧ Below w.heap.size w w' := by
  have HA := Lib.hid ha
  obtain ⟨lv, kv, rfl, h1, h2⟩ := ha
  obtain ⟨A0, p0, rfl, -, -⟩ := h1
  obtain ⟨A, cap, rfl, -, -⟩ := h2
  obtain ⟨lv', kv', rfl, h3, h4⟩ := hb
  obtain ⟨A0', p0', rfl, -, -⟩ := h3
  obtain ⟨A', cap', rfl, -, -⟩ := h4
  have hfb : (f != 0) = true := by rw [bne_iff_ne]; exact hf
  clear hf
  go_enter Tryd.func45, Tryd.ntmps45
  go_wp2_with fail
  refine (sameType_any (parts noTy) noTy _ _ _ (Nat.le_refl _) fit_no (HA.out.keep (by go_grown)) (noTy_is _)).mono ?_
  rintro e w1 ⟨rfl, hb1⟩
  go_wp2_with fail
  go_ret
  exact ⟨by simp, chain (by go_grown) hb1⟩

set_option maxHeartbeats 4000000 in
/-- The type is wrong. -/
theorem says_bad (t : Ty) (v : Value) (w : World) (hv : IsTy w v t) (hf : Fit t) (E : Int) (hE : tyErr t = E) (h0 : E ≠ 0) :
    Calls Tryd.prog 6 #[v] w fun e w' => e = .returned (.bool true) ∧ Below w.heap.size w w' := by
  have HZ := Lib.hid hv
  obtain ⟨lv, kv, rfl, h1, h2⟩ := hv
  obtain ⟨A0, p0, rfl, -, -⟩ := h1
  obtain ⟨A, cap, rfl, -, -⟩ := h2
  have HE := Lib.hid hE; have H0 := Lib.hid h0
  have hbe : (E != 0) = true := by rw [bne_iff_ne]; exact h0
  have hbq : (E == 0) = false := by rw [beq_eq_false_iff_ne]; exact h0
  clear h0 hE
  go_enter Tryd.func6, Tryd.ntmps6
  go_wp2_with fail
  obtain ⟨W, hW⟩ : ∃ W, w.alloc (.cells #[.int .i64 t.kind, .int .i64 t.sort, .string ⟨t.name.toArray⟩, .slice A0 t.labels.length p0, .slice A t.kids.length cap] 51) = W := ⟨_, rfl⟩
  have hbW : Below w.heap.size w W := by subst hW; go_grown
  have TB : VBox W w.heap.size t (.slice A0 t.labels.length p0) (.slice A t.kids.length cap) := by subst hW; exact ⟨by simp [go_sem], by simp [go_sem], by simp [go_sem], by simp [go_sem], by simp [go_sem], fun j => by simp [go_sem], by simp⟩
  try rw [hW]
  clear hW
  refine (refType_any t _ W (HZ.out.keep hbW) hf).mono ?_; rw [HE.out]; rintro e w1 ⟨rfl, hb1⟩
  have TB1 := TB.keep hb1 TB.lt
  have hw1 := chain hbW hb1
  clear TB hbW hb1
  clear W
  obtain ⟨t0, t1, t2, t3, t4, t5, t6⟩ := id TB1
  go_wp2_with fail
  obtain ⟨W2, hW2⟩ : ∃ W, w1.alloc (.cells #[.int .i64 0, .int .i64 0, .string ⟨#[]⟩, .slice none 0 0, .slice none 0 0] 51) = W := ⟨_, rfl⟩
  obtain ⟨UB, hUB⟩ : ∃ x, w1.heap.size = x := ⟨_, rfl⟩
  have hb2 : Below w1.heap.size w1 W2 := by subst hW2; exact (Below.refl _ _).alloc (Nat.le_refl _) _
  have U2 : VBox W2 UB noTy (.slice none 0 0) (.slice none 0 0) := by subst hW2 hUB; exact ⟨by simp [go_sem]; rfl, by simp [go_sem]; rfl, by simp [go_sem]; rfl, by simp [go_sem], by simp [go_sem], fun j => by simp [go_sem], by simp⟩
  have TB2 := TB1.keep hb2 TB1.lt
  have hw2 := chain hw1 hb2
  try rw [hW2]
  try rw [hUB]
  clear hW2 hUB TB1 hw1 hb2 t0 t1 t2 t3 t4 t5 t6
  clear w1
  refine (Write_bad t _ W2 (HZ.out.keep hw2) hf E HE.out H0.out).mono ?_; rintro e w3 ⟨rfl, hb3⟩
  have TB3 := TB2.keep hb3 TB2.lt
  have U3 := U2.keep hb3 U2.lt
  have hw3 := chain hw2 hb3
  clear TB2 U2 hw2 hb3
  clear W2
  obtain ⟨t0, t1, t2, t3, t4, t5, t6⟩ := id TB3
  obtain ⟨u0, u1, u2, u3, u4, u5, u6⟩ := id U3
  go_wp2_with fail
  refine (Size_bad t _ w3 (HZ.out.keep hw3) hf E HE.out H0.out).mono ?_; rintro e w4 ⟨rfl, hb4⟩
  have TB4 := TB3.keep hb4 TB3.lt
  have U4 := U3.keep hb4 U3.lt
  have hw4 := chain hw3 hb4
  clear TB3 U3 hw3 hb4 t0 t1 t2 t3 t4 t5 t6 u0 u1 u2 u3 u4 u5 u6
  clear w3
  obtain ⟨t0, t1, t2, t3, t4, t5, t6⟩ := id TB4
  obtain ⟨u0, u1, u2, u3, u4, u5, u6⟩ := id U4
  go_wp2_with fail
  refine (Unfold_bad t _ w4 (HZ.out.keep hw4) hf E HE.out H0.out).mono ?_; rintro e w5 ⟨r, rfl, hr, hb5⟩
  have HR := Lib.hid hr
  obtain ⟨lr, kr, rfl, hr1, hr2⟩ := hr
  obtain ⟨Ar, pr, rfl, -, -⟩ := hr1
  obtain ⟨Br, qr, rfl, -, -⟩ := hr2
  have TB5 := TB4.keep hb5 TB4.lt
  have U5 := U4.keep hb5 U4.lt
  have hw5 := chain hw4 hb5
  clear TB4 U4 hw4 hb5 t0 t1 t2 t3 t4 t5 t6 u0 u1 u2 u3 u4 u5 u6
  clear w4
  obtain ⟨t0, t1, t2, t3, t4, t5, t6⟩ := id TB5
  obtain ⟨u0, u1, u2, u3, u4, u5, u6⟩ := id U5
  go_wp2_with fail
  obtain ⟨W6, hW6⟩ : ∃ W, w5.alloc (.cells #[.int .i64 noTy.kind, .int .i64 noTy.sort, .string ⟨noTy.name.toArray⟩, .slice Ar noTy.labels.length pr, .slice Br noTy.kids.length qr] 51) = W := ⟨_, rfl⟩
  obtain ⟨CB, hCB⟩ : ∃ x, w5.heap.size = x := ⟨_, rfl⟩
  have hb6 : Below w5.heap.size w5 W6 := by subst hW6; exact (Below.refl _ _).alloc (Nat.le_refl _) _
  have C6 : VBox W6 CB noTy (.slice Ar noTy.labels.length pr) (.slice Br noTy.kids.length qr) := by subst hW6 hCB; exact ⟨by simp [go_sem], by simp [go_sem], by simp [go_sem], by simp [go_sem], by simp [go_sem], fun j => by simp [go_sem], by simp⟩
  have U6 := U5.keep hb6 U5.lt
  have hw6 := chain hw5 hb6
  have HR6 := Lib.hid (HR.out.keep hb6)
  try rw [hW6]
  try rw [hCB]
  clear hW6 hCB TB5 U5 hw5 hb6 HR t0 t1 t2 t3 t4 t5 t6 u0 u1 u2 u3 u4 u5 u6
  clear w5
  refine (Check_any t _ W6 (HZ.out.keep hw6) hf).mono ?_; rw [HE.out]; rintro e w7 ⟨rfl, hb7⟩
  have U7 := U6.keep hb7 U6.lt
  have C7 := C6.keep hb7 C6.lt
  have hw7 := chain hw6 hb7
  have HR7 := Lib.hid (HR6.out.keep hb7)
  clear U6 C6 hw6 hb7 HR6
  clear W6
  obtain ⟨u0, u1, u2, u3, u4, u5, u6⟩ := id U7
  obtain ⟨c0, c1, c2, c3, c4, c5, c6⟩ := id C7
  go_wp2_with fail
  refine (text_any [] [] E E w7 ⟨fun _ => ⟨rfl, rfl⟩, fun h => absurd h H0.out⟩).mono ?_; rintro e w' ⟨rfl, rfl⟩
  go_wp2_with fail
  refine (oneInt_any 0 E 0 E _ ⟨fun _ => ⟨rfl, rfl⟩, fun h => absurd h H0.out⟩).mono ?_; rintro e w' ⟨rfl, rfl⟩
  go_wp2_with fail
  refine (typed_bad E noTy _ _ _ H0.out HR7.out (noTy_is _)).mono ?_; rintro e w8 ⟨rfl, hb8⟩
  go_wp2_with fail
  go_ret
  exact ⟨rfl, chain hw7 hb8⟩

set_option maxHeartbeats 8000000 in
/-- The type is right. -/
theorem says_ok (n : Nat) (t : Ty) (v : Value) (w : World) (hv : IsTy w v t) (hf : Fit t) (hE : tyErr t = 0) (hch : Chain n t) (hsw : Sorts w) :
    Calls Tryd.prog 6 #[v] w fun e w' => e = .returned (.bool true) ∧ Below w.heap.size w w' := by
  have HZ := Lib.hid hv
  obtain ⟨lv, kv, rfl, h1, h2⟩ := hv
  obtain ⟨A0, p0, rfl, -, -⟩ := h1
  obtain ⟨A, cap, rfl, -, -⟩ := h2
  have hg := good_of_chk t [] 60 hE
  have hp := parts_ok hE
  have HE := Lib.hid hE; have HSW := Lib.hid hsw
  clear hE hsw
  go_enter Tryd.func6, Tryd.ntmps6
  go_wp2_with fail
  obtain ⟨W, hW⟩ : ∃ W, w.alloc (.cells #[.int .i64 t.kind, .int .i64 t.sort, .string ⟨t.name.toArray⟩, .slice A0 t.labels.length p0, .slice A t.kids.length cap] 51) = W := ⟨_, rfl⟩
  have hbW : Below w.heap.size w W := by subst hW; go_grown
  have TB : VBox W w.heap.size t (.slice A0 t.labels.length p0) (.slice A t.kids.length cap) := by subst hW; exact ⟨by simp [go_sem], by simp [go_sem], by simp [go_sem], by simp [go_sem], by simp [go_sem], fun j => by simp [go_sem], by simp⟩
  try rw [hW]
  clear hW
  refine (refType_any t _ W (HZ.out.keep hbW) hf).mono ?_; rw [HE.out]; rintro e w1 ⟨rfl, hb1⟩
  have TB1 := TB.keep hb1 TB.lt
  have hw1 := chain hbW hb1
  clear TB hbW hb1
  clear W
  obtain ⟨W2, hW2⟩ : ∃ W, w1.alloc (.cells #[.int .i64 0, .int .i64 0, .string ⟨#[]⟩, .slice none 0 0, .slice none 0 0] 51) = W := ⟨_, rfl⟩
  obtain ⟨UB, hUB⟩ : ∃ x, w1.heap.size = x := ⟨_, rfl⟩
  have hb2 : Below w1.heap.size w1 W2 := by subst hW2; exact (Below.refl _ _).alloc (Nat.le_refl _) _
  have U2 : VBox W2 UB noTy (.slice none 0 0) (.slice none 0 0) := by subst hW2 hUB; exact ⟨by simp [go_sem]; rfl, by simp [go_sem]; rfl, by simp [go_sem]; rfl, by simp [go_sem], by simp [go_sem], fun j => by simp [go_sem], by simp⟩
  have TB2w := TB1.lt
  have TB2 := TB1.keep hb2 TB1.lt
  have hw2 := chain hw1 hb2
  obtain ⟨t0, t1, t2, t3, t4, t5, t6⟩ := id TB1
  go_wp2_with fail
  try rw [hW2]
  try rw [hUB]
  clear t0 t1 t2 t3 t4 t5 t6 hW2 TB1 hw1 hb2
  have hUs : w.heap.size < UB := by rw [← hUB]; exact TB2w
  have hUw : w.heap.size ≤ UB := Nat.le_of_lt hUs
  clear hUB TB2w
  have hS : ∀ w' : World, Below W2.heap.size W2 w' → (fun w' : World => w'.cell? ⟨w.heap.size, 0, none⟩ = some (.int .i64 t.kind) ∧ w'.cell? ⟨w.heap.size, 1, none⟩ = some (.int .i64 t.sort) ∧ w'.cell? ⟨w.heap.size, 2, none⟩ = some (.string ⟨t.name.toArray⟩) ∧ w'.cell? ⟨w.heap.size, 3, none⟩ = some (.slice A0 t.labels.length p0) ∧ w'.cell? ⟨w.heap.size, 4, none⟩ = some (.slice A t.kids.length cap)) w' := fun w' h => ⟨cell_keep TB2.c0 h, cell_keep TB2.c1 h, cell_keep TB2.c2 h, cell_keep TB2.c3 h, cell_keep TB2.c4 h⟩
  have HSd := Lib.hid (hS W2.drew (Below.refl _ _).drew)
  have HSB := Lib.hid hS; clear hS
  refine wp_region_T 8 (fun w' : World => w'.cell? ⟨w.heap.size, 0, none⟩ = some (.int .i64 t.kind) ∧ w'.cell? ⟨w.heap.size, 1, none⟩ = some (.int .i64 t.sort) ∧ w'.cell? ⟨w.heap.size, 2, none⟩ = some (.string ⟨t.name.toArray⟩) ∧ w'.cell? ⟨w.heap.size, 3, none⟩ = some (.slice A0 t.labels.length p0) ∧ w'.cell? ⟨w.heap.size, 4, none⟩ = some (.slice A t.kids.length cap)) (by kernel_rfl) ?_
  refine wpT_take (i := 0) (v := ?_) rfl (by kernel_rfl) (by kernel_rfl) (by kernel_rfl) (by kernel_rfl) (fun _ _ _ h => h) (Or.inl ⟨by rfl, ?_⟩) HSd.out ?_
  rotate_left
  · (intro wq hSw; obtain ⟨q0, q1, q2, q3, q4⟩ := hSw; go_simp; all_goals (first | (with_reducible rfl) | (rw [if_neg (by first | omega | (simp; omega) | (simp only [List.length_append, List.length_cons, List.length_nil]; omega))])))
  simp only [List.getElem_toArray, List.getElem_cons_succ, List.getElem_cons_zero, Act.put, List.setIfInBounds_toArray, List.set_cons_zero, List.set_cons_succ]
  refine wpT_take (i := 2) (v := ?_) rfl (by kernel_rfl) (by kernel_rfl) (by kernel_rfl) (by kernel_rfl) (fun _ _ _ h => h) (Or.inl ⟨by rfl, ?_⟩) HSd.out ?_
  rotate_left
  · (intro wq hSw; obtain ⟨q0, q1, q2, q3, q4⟩ := hSw; go_simp; all_goals (first | (with_reducible rfl) | (rw [if_neg (by first | omega | (simp; omega) | (simp only [List.length_append, List.length_cons, List.length_nil]; omega))])))
  simp only [List.getElem_toArray, List.getElem_cons_succ, List.getElem_cons_zero, Act.put, List.setIfInBounds_toArray, List.set_cons_zero, List.set_cons_succ]
  refine wpT_take (i := 4) (v := ?_) rfl (by kernel_rfl) (by kernel_rfl) (by kernel_rfl) (by kernel_rfl) (fun _ _ _ h => h) (Or.inl ⟨by rfl, ?_⟩) HSd.out ?_
  rotate_left
  · (intro wq hSw; obtain ⟨q0, q1, q2, q3, q4⟩ := hSw; go_simp; all_goals (first | (with_reducible rfl) | (rw [if_neg (by first | omega | (simp; omega) | (simp only [List.length_append, List.length_cons, List.length_nil]; omega))])))
  simp only [List.getElem_toArray, List.getElem_cons_succ, List.getElem_cons_zero, Act.put, List.setIfInBounds_toArray, List.set_cons_zero, List.set_cons_succ]
  refine wpT_one (i := 1) rfl (by kernel_rfl) fun K hK => ?_
  go_simp
  have hcall := refText_any (parts t) t (.agg #[.int .i64 t.kind, .int .i64 t.sort, .string ⟨t.name.toArray⟩, .slice A0 t.labels.length p0, .slice A t.kids.length cap]) W2.drew (Nat.le_refl _) hp (HZ.out.keep (hw2.drew)) hg
  unfold TextSays at hcall
  refine hcall.mono ?_; clear hcall; rintro e w3 ⟨rfl, hq⟩
  have hb3 : Below W2.heap.size W2 w3 := chain (Below.refl W2.heap.size W2).drew hq
  clear hq
  refine hK.out _ _ (fun _ => HSB.out _ hb3) ?_
  clear hK K
  try simp only [List.getElem_toArray, List.getElem_cons_succ, List.getElem_cons_zero, Act.put, List.setIfInBounds_toArray, List.set_cons_zero, List.set_cons_succ]
  refine wpT_one (i := 3) rfl (by kernel_rfl) fun K hK => ?_
  go_simp
  refine (refSize_any (parts t) t (.agg #[.int .i64 t.kind, .int .i64 t.sort, .string ⟨t.name.toArray⟩, .slice A0 t.labels.length p0, .slice A t.kids.length cap]) w3 (Nat.le_refl _) (HZ.out.keep (chain hw2 hb3)) hf).mono ?_; rintro e w4 ⟨rfl, hq⟩
  have hb4 := chain hb3 hq
  clear hq
  refine hK.out _ _ (fun _ => HSB.out _ hb4) ?_
  clear hK K
  try simp only [List.getElem_toArray, List.getElem_cons_succ, List.getElem_cons_zero, Act.put, List.setIfInBounds_toArray, List.set_cons_zero, List.set_cons_succ]
  refine wpT_one (i := 5) rfl (by kernel_rfl) fun K hK => ?_
  go_simp
  refine (Head_any (· < w.heap.size) n t (.agg #[.int .i64 t.kind, .int .i64 t.sort, .string ⟨t.name.toArray⟩, .slice A0 t.labels.length p0, .slice A t.kids.length cap]) w4 (fun b h => Nat.lt_of_lt_of_le h (chain hw2 hb4).size) (HZ.out.toD.keep (Same.below (chain hw2 hb4)) (fun b h _ => h)) hg hch).mono ?_; rintro e w5 ⟨r, rfl, hr, hq⟩
  have hb5 := chain hb4 hq
  clear hq
  obtain ⟨HN, hHN⟩ : ∃ x, headN n t = x := ⟨_, rfl⟩
  have hgn : Good HN := by rw [← hHN]; exact headN_good hg
  rw [hHN] at hr
  have HHN := Lib.hid hHN; clear hHN
  have hUlt : UB < w4.heap.size := Nat.lt_of_lt_of_le U2.lt hb4.size
  have hrD := hr.keep (D' := fun b => b ≠ UB) (fun _ _ _ => rfl) (fun b h _ => by rcases h with h | h; (have h' : b < w.heap.size := h; omega); (have h' : w4.heap.size ≤ b := h; omega))
  obtain ⟨lr, kr, rfl, hr1, hr2⟩ := hr
  obtain ⟨Hr, hp0, rfl, -, -⟩ := hr1
  obtain ⟨Kr, kp0, rfl, -, -⟩ := hr2
  refine hK.out _ _ (fun _ => HSB.out _ hb5) ?_
  clear hK K
  try simp only [List.getElem_toArray, List.getElem_cons_succ, List.getElem_cons_zero, Act.put, List.setIfInBounds_toArray, List.set_cons_zero, List.set_cons_succ]
  refine wpT_one (i := 6) rfl (by kernel_rfl) fun K hK => ?_
  go_simp
  refine hK.out _ _ (fun _ => HSB.out _ hb5) ?_
  clear hK K
  try simp only [List.getElem_toArray, List.getElem_cons_succ, List.getElem_cons_zero, Act.put, List.setIfInBounds_toArray, List.set_cons_zero, List.set_cons_succ]
  refine wpT_one (i := 7) rfl (by kernel_rfl) fun K hK => ?_
  go_simp
  refine hK.out _ _ (fun _ => HSB.out _ hb5) ?_
  clear hK K
  try simp only [List.getElem_toArray, List.getElem_cons_succ, List.getElem_cons_zero, Act.put, List.setIfInBounds_toArray, List.set_cons_zero, List.set_cons_succ]
  have U5 := U2.keep hb5 U2.lt
  obtain ⟨u0, u1, u2, u3, u4, u5, u6⟩ := id U5
  refine wpT_one (i := 8) rfl (by kernel_rfl) fun K hK => ?_
  go_simp
  refine hK.out _ _ (fun h => absurd h (by decide)) ?_
  clear hK K
  try simp only [List.getElem_toArray, List.getElem_cons_succ, List.getElem_cons_zero, Act.put, List.setIfInBounds_toArray, List.set_cons_zero, List.set_cons_succ]
  refine wpT_done (by kernel_rfl) ?_
  have U6 := U5.fill HN (.slice Hr HN.labels.length hp0) (.slice Kr HN.kids.length kp0)
  have TB6 := (TB2.keep hb5 TB2.lt).far5 (q := UB) (by omega) (.int .i64 HN.kind) (.int .i64 HN.sort) (.string ⟨HN.name.toArray⟩) (.slice Hr HN.labels.length hp0) (.slice Kr HN.kids.length kp0)
  have HU6 := Lib.hid (hrD.keep (D' := fun b => b ≠ UB) (Same.fill (b := UB) (fun h => h rfl) (.int .i64 HN.kind) (.int .i64 HN.sort) (.string ⟨HN.name.toArray⟩) (.slice Hr HN.labels.length hp0) (.slice Kr HN.kids.length kp0)) (fun b h _ => h)).is
  have hw6 := below_fill (chain hw2 hb5) (b := UB) hUw (.int .i64 HN.kind) (.int .i64 HN.sort) (.string ⟨HN.name.toArray⟩) (.slice Hr HN.labels.length hp0) (.slice Kr HN.kids.length kp0)
  generalize (((((w5.setCell ⟨UB, 0, none⟩ (.int .i64 HN.kind)).setCell ⟨UB, 1, none⟩ (.int .i64 HN.sort)).setCell ⟨UB, 2, none⟩ (.string ⟨HN.name.toArray⟩)).setCell ⟨UB, 3, none⟩ (.slice Hr HN.labels.length hp0)).setCell ⟨UB, 4, none⟩ (.slice Kr HN.kids.length kp0)) = w6 at U6 TB6 HU6 hw6 ⊢
  clear U5 TB2 U2 u0 u1 u2 u3 u4 u5 u6 hb3 hb4 hb5 hw2 HSB HSd hrD hUlt hUw
  obtain ⟨t0, t1, t2, t3, t4, t5, t6⟩ := id TB6
  obtain ⟨u0, u1, u2, u3, u4, u5, u6⟩ := id U6
  obtain ⟨Z, hZ⟩ : ∃ x, sizeW HN = x := ⟨_, rfl⟩
  have HZZ := Lib.hid hZ
  have hsz := refSize_any (parts HN) HN (.agg #[.int .i64 HN.kind, .int .i64 HN.sort, .string ⟨HN.name.toArray⟩, .slice Hr HN.labels.length hp0, .slice Kr HN.kids.length kp0]) w6 (Nat.le_refl _) HU6.out (good_fit hgn)
  rw [hZ] at hsz
  have HSZ := Lib.hid hsz; clear hsz hZ
  go_wp2_with fail
  refine HSZ.out.mono ?_; rintro e w7 ⟨rfl, hb7⟩
  have TB7 := TB6.keep hb7 TB6.lt
  have U7 := U6.keep hb7 U6.lt
  have hw7 := chain hw6 hb7
  have HU7 := Lib.hid (HU6.out.keep hb7)
  clear t0 t1 t2 t3 t4 t5 t6 u0 u1 u2 u3 u4 u5 u6 TB6 U6 hw6 hb7 HU6 HSZ
  clear w6
  obtain ⟨t0, t1, t2, t3, t4, t5, t6⟩ := id TB7
  obtain ⟨u0, u1, u2, u3, u4, u5, u6⟩ := id U7
  by_cases hbig : 60 < Z
  · have hdec : decide (60 < Z) = true := by simp [hbig]
    have hUE : unfoldE n t = 2 := by unfold unfoldE; rw [HHN.out, HZZ.out]; rw [if_pos hbig]
    have hUT : unfoldTy n t = noTy := by unfold unfoldTy; rw [HHN.out, HZZ.out]; rw [if_pos hbig]
    have HUE := Lib.hid hUE; have HUT := Lib.hid hUT
    clear hUE hUT hbig
    go_wp2_with fail
    refine (Write_ok t _ w7 (HZ.out.keep hw7) hf HE.out (HSW.out.keep hw7)).mono ?_; rintro e w8 ⟨rfl, hb8⟩
    have TB8 := TB7.keep hb8 TB7.lt
    have U8 := U7.keep hb8 U7.lt
    have hw8 := chain hw7 hb8
    have HU8 := Lib.hid (HU7.out.keep hb8)
    clear t0 t1 t2 t3 t4 t5 t6 u0 u1 u2 u3 u4 u5 u6 TB7 U7 hw7 hb8 HU7
    clear w7
    obtain ⟨t0, t1, t2, t3, t4, t5, t6⟩ := id TB8
    obtain ⟨u0, u1, u2, u3, u4, u5, u6⟩ := id U8
    go_wp2_with fail
    refine (Size_ok t _ w8 (HZ.out.keep hw8) hf HE.out).mono ?_; rintro e w9 ⟨rfl, hb9⟩
    have TB9 := TB8.keep hb9 TB8.lt
    have U9 := U8.keep hb9 U8.lt
    have hw9 := chain hw8 hb9
    have HU9 := Lib.hid (HU8.out.keep hb9)
    clear t0 t1 t2 t3 t4 t5 t6 u0 u1 u2 u3 u4 u5 u6 TB8 U8 hw8 hb9 HU8
    clear w8
    obtain ⟨t0, t1, t2, t3, t4, t5, t6⟩ := id TB9
    obtain ⟨u0, u1, u2, u3, u4, u5, u6⟩ := id U9
    go_wp2_with fail
    refine (Unfold_ok n t _ w9 (HZ.out.keep hw9) hf HE.out hch).mono ?_; rw [HUE.out, HUT.out]; rintro e w10 ⟨r, rfl, hr, hb10⟩
    have HR := Lib.hid hr
    obtain ⟨lr, kr, rfl, hr1, hr2⟩ := hr
    obtain ⟨Ar, pr, rfl, -, -⟩ := hr1
    obtain ⟨Br, qr, rfl, -, -⟩ := hr2
    have TB10 := TB9.keep hb10 TB9.lt
    have U10 := U9.keep hb10 U9.lt
    have hw10 := chain hw9 hb10
    have HU10 := Lib.hid (HU9.out.keep hb10)
    clear t0 t1 t2 t3 t4 t5 t6 u0 u1 u2 u3 u4 u5 u6 TB9 U9 hw9 hb10 HU9
    clear w9
    obtain ⟨t0, t1, t2, t3, t4, t5, t6⟩ := id TB10
    obtain ⟨u0, u1, u2, u3, u4, u5, u6⟩ := id U10
    go_wp2_with fail
    obtain ⟨W11, hW11⟩ : ∃ W, w10.alloc (.cells #[.int .i64 noTy.kind, .int .i64 noTy.sort, .string ⟨noTy.name.toArray⟩, .slice Ar noTy.labels.length pr, .slice Br noTy.kids.length qr] 51) = W := ⟨_, rfl⟩
    obtain ⟨CB, hCB⟩ : ∃ x, w10.heap.size = x := ⟨_, rfl⟩
    have hb11 : Below w10.heap.size w10 W11 := by subst hW11; exact (Below.refl _ _).alloc (Nat.le_refl _) _
    have C11 : VBox W11 CB noTy (.slice Ar noTy.labels.length pr) (.slice Br noTy.kids.length qr) := by subst hW11 hCB; exact ⟨by simp [go_sem], by simp [go_sem], by simp [go_sem], by simp [go_sem], by simp [go_sem], fun j => by simp [go_sem], by simp⟩
    have U11 := U10.keep hb11 U10.lt
    have hw11 := chain hw10 hb11
    have HR11 := Lib.hid (HR.out.keep hb11)
    have HU11 := Lib.hid (HU10.out.keep hb11)
    try rw [hW11]
    try rw [hCB]
    clear hW11 hCB TB10 U10 hw10 hb11 HR HU10 t0 t1 t2 t3 t4 t5 t6 u0 u1 u2 u3 u4 u5 u6
    clear w10
    refine (Check_any t _ W11 (HZ.out.keep hw11) hf).mono ?_; rw [HE.out]; rintro e w12 ⟨rfl, hb12⟩
    have U12 := U11.keep hb12 U11.lt
    have C12 := C11.keep hb12 C11.lt
    have hw12 := chain hw11 hb12
    have HR12 := Lib.hid (HR11.out.keep hb12)
    have HU12 := Lib.hid (HU11.out.keep hb12)
    clear U11 C11 hw11 hb12 HR11 HU11
    clear W11
    obtain ⟨u0, u1, u2, u3, u4, u5, u6⟩ := id U12
    obtain ⟨c0, c1, c2, c3, c4, c5, c6⟩ := id C12
    go_wp2_with fail
    refine (text_any (txt t) (txt t) 0 0 w12 ⟨fun h => absurd rfl h, fun _ => ⟨rfl, rfl⟩⟩).mono ?_; rintro e w' ⟨rfl, rfl⟩
    go_wp2_with fail
    refine (oneInt_any (sizeW t) 0 (sizeW t) 0 _ ⟨fun h => absurd rfl h, fun _ => ⟨rfl, rfl⟩⟩).mono ?_; rintro e w' ⟨rfl, rfl⟩
    go_wp2_with fail
    refine (typed_bad 2 HN _ _ _ (by decide) HR12.out HU12.out).mono ?_; rintro e w13 ⟨rfl, hb13⟩
    go_wp2_with fail
    go_ret
    exact ⟨rfl, chain hw12 hb13⟩
  · have hdec : decide (60 < Z) = false := by simp [hbig]
    have hUE : unfoldE n t = 0 := by unfold unfoldE; rw [HHN.out, HZZ.out]; rw [if_neg hbig]
    have hUT : unfoldTy n t = HN := by unfold unfoldTy; rw [HHN.out, HZZ.out]; rw [if_neg hbig]
    have HUE := Lib.hid hUE; have HUT := Lib.hid hUT
    clear hUE hUT hbig
    go_wp2_with fail
    refine (Write_ok t _ w7 (HZ.out.keep hw7) hf HE.out (HSW.out.keep hw7)).mono ?_; rintro e w8 ⟨rfl, hb8⟩
    have TB8 := TB7.keep hb8 TB7.lt
    have U8 := U7.keep hb8 U7.lt
    have hw8 := chain hw7 hb8
    have HU8 := Lib.hid (HU7.out.keep hb8)
    clear t0 t1 t2 t3 t4 t5 t6 u0 u1 u2 u3 u4 u5 u6 TB7 U7 hw7 hb8 HU7
    clear w7
    obtain ⟨t0, t1, t2, t3, t4, t5, t6⟩ := id TB8
    obtain ⟨u0, u1, u2, u3, u4, u5, u6⟩ := id U8
    go_wp2_with fail
    refine (Size_ok t _ w8 (HZ.out.keep hw8) hf HE.out).mono ?_; rintro e w9 ⟨rfl, hb9⟩
    have TB9 := TB8.keep hb9 TB8.lt
    have U9 := U8.keep hb9 U8.lt
    have hw9 := chain hw8 hb9
    have HU9 := Lib.hid (HU8.out.keep hb9)
    clear t0 t1 t2 t3 t4 t5 t6 u0 u1 u2 u3 u4 u5 u6 TB8 U8 hw8 hb9 HU8
    clear w8
    obtain ⟨t0, t1, t2, t3, t4, t5, t6⟩ := id TB9
    obtain ⟨u0, u1, u2, u3, u4, u5, u6⟩ := id U9
    go_wp2_with fail
    refine (Unfold_ok n t _ w9 (HZ.out.keep hw9) hf HE.out hch).mono ?_; rw [HUE.out, HUT.out]; rintro e w10 ⟨r, rfl, hr, hb10⟩
    have HR := Lib.hid hr
    obtain ⟨lr, kr, rfl, hr1, hr2⟩ := hr
    obtain ⟨Ar, pr, rfl, -, -⟩ := hr1
    obtain ⟨Br, qr, rfl, -, -⟩ := hr2
    have TB10 := TB9.keep hb10 TB9.lt
    have U10 := U9.keep hb10 U9.lt
    have hw10 := chain hw9 hb10
    have HU10 := Lib.hid (HU9.out.keep hb10)
    clear t0 t1 t2 t3 t4 t5 t6 u0 u1 u2 u3 u4 u5 u6 TB9 U9 hw9 hb10 HU9
    clear w9
    obtain ⟨t0, t1, t2, t3, t4, t5, t6⟩ := id TB10
    obtain ⟨u0, u1, u2, u3, u4, u5, u6⟩ := id U10
    go_wp2_with fail
    obtain ⟨W11, hW11⟩ : ∃ W, w10.alloc (.cells #[.int .i64 HN.kind, .int .i64 HN.sort, .string ⟨HN.name.toArray⟩, .slice Ar HN.labels.length pr, .slice Br HN.kids.length qr] 51) = W := ⟨_, rfl⟩
    obtain ⟨CB, hCB⟩ : ∃ x, w10.heap.size = x := ⟨_, rfl⟩
    have hb11 : Below w10.heap.size w10 W11 := by subst hW11; exact (Below.refl _ _).alloc (Nat.le_refl _) _
    have C11 : VBox W11 CB HN (.slice Ar HN.labels.length pr) (.slice Br HN.kids.length qr) := by subst hW11 hCB; exact ⟨by simp [go_sem], by simp [go_sem], by simp [go_sem], by simp [go_sem], by simp [go_sem], fun j => by simp [go_sem], by simp⟩
    have U11 := U10.keep hb11 U10.lt
    have hw11 := chain hw10 hb11
    have HR11 := Lib.hid (HR.out.keep hb11)
    have HU11 := Lib.hid (HU10.out.keep hb11)
    try rw [hW11]
    try rw [hCB]
    clear hW11 hCB TB10 U10 hw10 hb11 HR HU10 t0 t1 t2 t3 t4 t5 t6 u0 u1 u2 u3 u4 u5 u6
    clear w10
    refine (Check_any t _ W11 (HZ.out.keep hw11) hf).mono ?_; rw [HE.out]; rintro e w12 ⟨rfl, hb12⟩
    have U12 := U11.keep hb12 U11.lt
    have C12 := C11.keep hb12 C11.lt
    have hw12 := chain hw11 hb12
    have HR12 := Lib.hid (HR11.out.keep hb12)
    have HU12 := Lib.hid (HU11.out.keep hb12)
    clear U11 C11 hw11 hb12 HR11 HU11
    clear W11
    obtain ⟨u0, u1, u2, u3, u4, u5, u6⟩ := id U12
    obtain ⟨c0, c1, c2, c3, c4, c5, c6⟩ := id C12
    go_wp2_with fail
    refine (text_any (txt t) (txt t) 0 0 w12 ⟨fun h => absurd rfl h, fun _ => ⟨rfl, rfl⟩⟩).mono ?_; rintro e w' ⟨rfl, rfl⟩
    go_wp2_with fail
    refine (oneInt_any (sizeW t) 0 (sizeW t) 0 _ ⟨fun h => absurd rfl h, fun _ => ⟨rfl, rfl⟩⟩).mono ?_; rintro e w' ⟨rfl, rfl⟩
    go_wp2_with fail
    refine (typed_ok HN _ _ _ (good_fit hgn) HR12.out HU12.out).mono ?_; rintro e w13 ⟨rfl, hb13⟩
    go_wp2_with fail
    go_ret
    exact ⟨rfl, chain hw12 hb13⟩

/-- Whatever type. -/
theorem says_any (t : Ty) (v : Value) (w : World) (hv : IsTy w v t) (hf : Fit t) (hsw : Sorts w) :
    Calls Tryd.prog 6 #[v] w fun e w' => e = .returned (.bool true) ∧ Below w.heap.size w w' := by
  by_cases h : tyErr t = 0
  · obtain ⟨n, hn⟩ := chain_ok h
    exact says_ok n t v w hv hf h hn hsw
  · exact says_bad t v w hv hf _ rfl h
end Go.Proofs.YtcacembpegoghaaDoor
