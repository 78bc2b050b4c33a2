/-
  types.Unfold.
-/
import Derived.Test.YtcacembpegoghaaDoorTyU
import Derived.Test.YtcacembpegoghaaDoorTyK4
import Derived.Test.YtcacembpegoghaaDoorTySz
namespace Go.Proofs.YtcacembpegoghaaDoor
open Go.RowKit Go.Proofs
set_option maxRecDepth 100000

theorem good_fit : ∀ {t : Ty}, Good t → Fit t := by
  intro t h
  induction h with
  | mk k s n ls ks h hk ih =>
    obtain ⟨h1, h2, h3, h4, h5, h6, h7, h8⟩ := (shape_of h).small
    refine .mk k s n ls ks (WalkArith.wf_i64 (by omega)) (WalkArith.wf_i64 (by omega)) (by unfold maxLen; omega) (by unfold maxLen; omega) (fun l hl => by have := h3 l hl; unfold maxLen; omega) (by unfold maxLen; omega) ih
/-- No type at all. -/
def noTy : Ty := .mk 0 0 [] [] []
def unfoldTy (n : Nat) (t : Ty) : Ty := if 60 < sizeW (headN n t) then noTy else headN n t
theorem noTy_is (w : World) : IsTy w (.agg #[.int .i64 0, .int .i64 0, .string ⟨#[]⟩, .slice none 0 0, .slice none 0 0]) noTy := ⟨_, _, rfl, ⟨none, 0, rfl, Nat.le_refl _, fun h => by simp [noTy, Ty.labels] at h⟩, ⟨none, 0, rfl, Nat.le_refl _, fun h => by simp [noTy, Ty.kids] at h⟩⟩
def unfoldE (n : Nat) (t : Ty) : Int := if 60 < sizeW (headN n t) then 2 else 0

set_option maxHeartbeats 4000000 in
theorem Unfold_bad (t : Ty) (v : Value) (w : World) (hv : IsTy w v t) (hf : Fit t) (E : Int) (hE : tyErr t = E) (h0 : E ≠ 0) :
    Calls Tryd.prog 42 #[v] w fun e w' => ∃ r, e = .returned (.tuple #[r, .int .i64 E]) ∧ IsTy w' r noTy ∧ Below w.heap.size w w' := by
  have HZ := Lib.hid hv
  obtain ⟨lv, kv, rfl, h1, h2⟩ := hv
  obtain ⟨A0, p0, rfl, -, -⟩ := h1
  obtain ⟨A, cap, rfl, -, -⟩ := h2
  have HE := Lib.hid hE
  have hb : (E != 0) = true := by rw [bne_iff_ne]; exact h0
  clear h0 hE
  go_enter Tryd.func42, Tryd.ntmps42
  go_wp2_with fail
  have hbW : Below w.heap.size w ((w.alloc (.cells #[.int .i64 t.kind, .int .i64 t.sort, .string ⟨t.name.toArray⟩, .slice A0 t.labels.length p0, .slice A t.kids.length cap] 51)).alloc (.cells #[.int .i64 0, .int .i64 0, .string ⟨#[]⟩, .slice none 0 0, .slice none 0 0] 51)) := by go_grown
  have hRB : VBox ((w.alloc (.cells #[.int .i64 t.kind, .int .i64 t.sort, .string ⟨t.name.toArray⟩, .slice A0 t.labels.length p0, .slice A t.kids.length cap] 51)).alloc (.cells #[.int .i64 0, .int .i64 0, .string ⟨#[]⟩, .slice none 0 0, .slice none 0 0] 51)) (w.heap.size + 1) (.mk 0 0 [] [] []) (.slice none 0 0) (.slice none 0 0) := ⟨by simp [go_sem]; rfl, by simp [go_sem]; rfl, by simp [go_sem]; rfl, by simp [go_sem], by simp [go_sem], fun j => by simp [go_sem], by simp⟩
  refine (Check_any t _ _ (HZ.out.keep hbW) hf).mono ?_; rw [HE.out]; rintro e w1 ⟨rfl, hb1⟩
  have hR1 := hRB.keep hb1 hRB.lt
  have hF := hR1.fill noTy (.slice none 0 0) (.slice none 0 0)
  have hb2 := below_fill (chain hbW hb1) (b := w.heap.size + 1) (by omega) (.int .i64 noTy.kind) (.int .i64 noTy.sort) (.string ⟨noTy.name.toArray⟩) (.slice none 0 0) (.slice none 0 0)
  obtain ⟨r0, r1, r2, r3, r4, r5, r6⟩ := hR1
  simp only [Ty.kind, Ty.sort, Ty.name] at r0 r1 r2
  simp only [noTy, Ty.kind, Ty.sort, Ty.name] at hF hb2
  clear hRB
  go_wp2_with fail
  generalize (((((w1.setCell ⟨w.heap.size + 1, 0, none⟩ (.int .i64 0)).setCell ⟨w.heap.size + 1, 1, none⟩ (.int .i64 0)).setCell ⟨w.heap.size + 1, 2, none⟩ (.string ⟨#[]⟩)).setCell ⟨w.heap.size + 1, 3, none⟩ (.slice none 0 0)).setCell ⟨w.heap.size + 1, 4, none⟩ (.slice none 0 0)) = w5 at hF hb2 ⊢
  obtain ⟨d0, d1, d2, d3, d4, d5, d6⟩ := hF
  simp only [Ty.kind, Ty.sort, Ty.name] at d0 d1 d2
  exact bodyPost_ret (v := .tuple #[.agg #[.int .i64 0, .int .i64 0, .string ⟨#[]⟩, .slice none 0 0, .slice none 0 0], .int .i64 E]) (by simp [results, Tryd.results42, go_sem, d0, d1, d2, d3, d4]) rfl ⟨_, rfl, noTy_is w5, hb2⟩

set_option maxHeartbeats 8000000 in
theorem Unfold_ok (n : Nat) (t : Ty) (v : Value) (w : World) (hv : IsTy w v t) (hf : Fit t) (hE : tyErr t = 0) (hch : Chain n t) :
    Calls Tryd.prog 42 #[v] w fun e w' => ∃ r, e = .returned (.tuple #[r, .int .i64 (unfoldE n t)]) ∧ IsTy w' r (unfoldTy n t) ∧ Below w.heap.size w w' := by
  have hg := good_of_chk t [] 60 hE
  obtain ⟨HN, hHN⟩ : ∃ x, headN n t = x := ⟨_, rfl⟩
  obtain ⟨E2, hE2⟩ : ∃ x, unfoldE n t = x := ⟨_, rfl⟩
  obtain ⟨R2, hR2⟩ : ∃ x, unfoldTy n t = x := ⟨_, rfl⟩
  rw [hE2, hR2]
  unfold unfoldE at hE2
  unfold unfoldTy at hR2
  rw [hHN] at hE2 hR2
  have HE2 := Lib.hid hE2; have HR2' := Lib.hid hR2
  clear hE2 hR2
  have HZ := Lib.hid hv
  obtain ⟨lv, kv, rfl, h1, h2⟩ := hv
  obtain ⟨A0, p0, rfl, -, -⟩ := h1
  obtain ⟨A, cap, rfl, -, -⟩ := h2
  have HHN := Lib.hid hHN; have HE := Lib.hid hE
  clear hHN hE
  go_enter Tryd.func42, Tryd.ntmps42
  go_wp2_with fail
  obtain ⟨W, hW⟩ : ∃ W, (w.alloc (.cells #[.int .i64 t.kind, .int .i64 t.sort, .string ⟨t.name.toArray⟩, .slice A0 t.labels.length p0, .slice A t.kids.length cap] 51)).alloc (.cells #[.int .i64 0, .int .i64 0, .string ⟨#[]⟩, .slice none 0 0, .slice none 0 0] 51) = W := ⟨_, rfl⟩
  have hbW : Below w.heap.size w W := by subst hW; go_grown
  have hTB : VBox W w.heap.size t (.slice A0 t.labels.length p0) (.slice A t.kids.length cap) := by subst hW; exact ⟨by simp [go_sem], by simp [go_sem], by simp [go_sem], by simp [go_sem], by simp [go_sem], fun j => by simp [go_sem], by simp; omega⟩
  have hRB : VBox W (w.heap.size + 1) (.mk 0 0 [] [] []) (.slice none 0 0) (.slice none 0 0) := by subst hW; exact ⟨by simp [go_sem]; rfl, by simp [go_sem]; rfl, by simp [go_sem]; rfl, by simp [go_sem], by simp [go_sem], fun j => by simp [go_sem], by simp⟩
  try rw [hW]
  clear hW
  refine (Check_any t _ _ (HZ.out.keep hbW) hf).mono ?_; rw [HE.out]; rintro e w1 ⟨rfl, hb1⟩
  have hTB1 := hTB.keep hb1 hTB.lt
  have hRB1 := hRB.keep hb1 hRB.lt
  have hbw1 := chain hbW hb1
  clear hTB hRB hbW hb1
  clear W
  obtain ⟨t0, t1, t2, t3, t4, t5, t6⟩ := id hTB1
  go_wp2_with fail
  have htw := twin_any (fun b => (b ≠ w.heap.size ∧ b ≠ w.heap.size + 1) ∧ b < w1.heap.size) t (.agg #[.int .i64 t.kind, .int .i64 t.sort, .string ⟨t.name.toArray⟩, .slice A0 t.labels.length p0, .slice A t.kids.length cap]) w1 (fun b h => h.2) (HZ.out.toD.keep (Same.below hbw1) (fun b h _ => by have h' : b < w.heap.size := h; have := hTB1.lt; exact ⟨⟨by omega, by omega⟩, by omega⟩)) hg
  refine htw.mono ?_; clear htw
  rintro e w2 ⟨r, rfl, hr, hb2⟩
  obtain ⟨lr, kr, rfl, hr1, hr2⟩ := hr
  have HR1 := Lib.hid hr1; have HR2 := Lib.hid hr2
  obtain ⟨Ar, pr, rfl, -, -⟩ := hr1
  obtain ⟨Br, qr, rfl, -, -⟩ := hr2
  have hTB2 := hTB1.keep hb2 hTB1.lt
  have hRB2 := hRB1.keep hb2 hRB1.lt
  have hbw2 := chain hbw1 hb2
  have hcont : TyD (fun b => b ≠ w.heap.size ∧ b ≠ w.heap.size + 1) w2 (.agg #[.int .i64 t.kind, .int .i64 t.sort, .string ⟨t.name.toArray⟩, .slice Ar t.labels.length pr, .slice Br t.kids.length qr]) t := (tyD_of HR1.out HR2.out).keep (fun _ _ _ => rfl) (fun b h _ => by
    have hB1 := hTB1.lt
    have hR1 := hRB1.lt
    rcases h with h | h
    · exact h.1
    · have h' : w1.heap.size ≤ b := h
      exact ⟨by omega, by omega⟩)
  obtain ⟨z0, z1, z2, z3, z4, z5, z6⟩ := id hTB2
  have hUB3 := hTB2.fill t (.slice Ar t.labels.length pr) (.slice Br t.kids.length qr)
  have hRB3 := hRB2.far5 (q := w.heap.size) (by omega) (.int .i64 t.kind) (.int .i64 t.sort) (.string ⟨t.name.toArray⟩) (.slice Ar t.labels.length pr) (.slice Br t.kids.length qr)
  have hcont3 := hcont.keep (D' := fun b => b ≠ w.heap.size ∧ b ≠ w.heap.size + 1) (Same.fill (b := w.heap.size) (fun h => h.1 rfl) (.int .i64 t.kind) (.int .i64 t.sort) (.string ⟨t.name.toArray⟩) (.slice Ar t.labels.length pr) (.slice Br t.kids.length qr)) (fun b h _ => h)
  have hbw3 := below_fill hbw2 (b := w.heap.size) (Nat.le_refl _) (.int .i64 t.kind) (.int .i64 t.sort) (.string ⟨t.name.toArray⟩) (.slice Ar t.labels.length pr) (.slice Br t.kids.length qr)
  clear t0 t1 t2 t3 t4 t5 t6 hcont hbw2 hbw1 hb2 hTB1 hRB1 hTB2 hRB2
  go_wp2_with fail
  generalize (((((w2.setCell ⟨w.heap.size, 0, none⟩ (.int .i64 t.kind)).setCell ⟨w.heap.size, 1, none⟩ (.int .i64 t.sort)).setCell ⟨w.heap.size, 2, none⟩ (.string ⟨t.name.toArray⟩)).setCell ⟨w.heap.size, 3, none⟩ (.slice Ar t.labels.length pr)).setCell ⟨w.heap.size, 4, none⟩ (.slice Br t.kids.length qr)) = w3 at hUB3 hRB3 hcont3 hbw3 ⊢
  clear z0 z1 z2 z3 z4 z5 z6
  go_loopg [13] n (fun gk _ wr => ∃ (u : Ty) (L1 : Option Addr) (l1 q1 : Nat) (L2 : Option Addr) (l2 q2 : Nat), Chain gk u ∧ Good u ∧ headN gk u = HN ∧ VBox wr w.heap.size u (.slice L1 l1 q1) (.slice L2 l2 q2) ∧ TyD (fun b => b ≠ w.heap.size ∧ b ≠ (w.heap.size + 1)) wr (.agg #[.int .i64 u.kind, .int .i64 u.sort, .string ⟨u.name.toArray⟩, .slice L1 l1 q1, .slice L2 l2 q2]) u ∧ VBox wr (w.heap.size + 1) (.mk 0 0 [] [] []) (.slice none 0 0) (.slice none 0 0) ∧ Below w.heap.size w wr)
  case atStart => exact ⟨t, Ar, _, pr, Br, _, qr, hch, hg, HHN.out, hUB3, hcont3, hRB3, hbw3⟩
  case round =>
    obtain ⟨u, L1, l1, q1, L2, l2, q2, hcu, hgu, hhu, hUB, hu, hRB, hb⟩ := hrel
    have hu' := hu
    obtain ⟨_, _, e, hu1, hu2⟩ := hu'
    injection e with e
    have e := congrArg Array.toList e
    simp only [List.cons.injEq, true_and, and_true] at e
    obtain ⟨rfl, rfl⟩ := e
    have HU := Lib.hid hu
    obtain ⟨u0, u1, u2, u3, u4, u5, u6⟩ := id hUB
    by_cases k8 : u.kind = 8
    · obtain ⟨g', rfl⟩ : ∃ g', gk = g' + 1 := by
        cases gk with
        | zero => exact absurd k8 hcu.1
        | succ g' => exact ⟨g', rfl⟩
      obtain ⟨-, c, hkc, hcc⟩ := hcu
      have hl2 : l2 = 1 := by
        obtain ⟨_, _, e, _⟩ := hu2
        injection e with _ e2
        rw [e2, hkc]; rfl
      subst hl2
      rw [hkc] at hu2
      obtain ⟨-, -, b, off, A1, n1, p1, A2, n2, p2, rfl, hbD, c0, c1, c2, c3, c4, hl', hk'⟩ := kid_atD (i := 0) (t := c) hu2 rfl
      simp only [Nat.zero_mul, Nat.add_zero] at c0 c1 c2 c3 c4
      have HL' := Lib.hid hl'; have HK' := Lib.hid hk'
      have hnext : headN g' (sub u.name u c) = HN := by
        rw [← hhu]; exact (headN_step hkc).symm
      have hgc : Good c := hgu.kid c (by rw [hkc]; simp)
      have hgs : Good (sub u.name u c) := sub_good _ hgu c hgc
      have hcs : Chain g' (sub u.name u c) := chain_sub hcc
      have HNX := Lib.hid hnext
      have hk8 : (u.kind == 8) = true := by simp [k8]
      have HKC := Lib.hid hkc
      clear hl' hk' hu1 hu2 hhu hnext hcc k8 hkc hu
      have hS : ∀ w' : World, Below wr.heap.size wr w' → (fun w' : World => w'.cell? ⟨w.heap.size, 0, none⟩ = some (.int .i64 u.kind) ∧ w'.cell? ⟨w.heap.size, 1, none⟩ = some (.int .i64 u.sort) ∧ w'.cell? ⟨w.heap.size, 2, none⟩ = some (.string ⟨u.name.toArray⟩) ∧ w'.cell? ⟨w.heap.size, 3, none⟩ = some (.slice L1 l1 q1) ∧ w'.cell? ⟨w.heap.size, 4, none⟩ = some (.slice (some ⟨b, off, none⟩) 1 q2) ∧ w'.cell? ⟨b, off, none⟩ = some (.int .i64 c.kind) ∧ w'.cell? ⟨b, off + 1, none⟩ = some (.int .i64 c.sort) ∧ w'.cell? ⟨b, off + 2, none⟩ = some (.string ⟨c.name.toArray⟩) ∧ w'.cell? ⟨b, off + 3, none⟩ = some (.slice A1 n1 p1) ∧ w'.cell? ⟨b, off + 4, none⟩ = some (.slice A2 n2 p2)) w' := fun w' h => ⟨cell_keep u0 h, cell_keep u1 h, cell_keep u2 h, cell_keep u3 h, cell_keep u4 h, cell_keep c0 h, cell_keep c1 h, cell_keep c2 h, cell_keep c3 h, cell_keep c4 h⟩
      have HSd := Lib.hid (hS wr.drew (Below.refl _ _).drew)
      have HSB := Lib.hid hS; clear hS
      go_wp2_with fail
      refine wp_region_T 8 (fun w' : World => w'.cell? ⟨w.heap.size, 0, none⟩ = some (.int .i64 u.kind) ∧ w'.cell? ⟨w.heap.size, 1, none⟩ = some (.int .i64 u.sort) ∧ w'.cell? ⟨w.heap.size, 2, none⟩ = some (.string ⟨u.name.toArray⟩) ∧ w'.cell? ⟨w.heap.size, 3, none⟩ = some (.slice L1 l1 q1) ∧ w'.cell? ⟨w.heap.size, 4, none⟩ = some (.slice (some ⟨b, off, none⟩) 1 q2) ∧ w'.cell? ⟨b, off, none⟩ = some (.int .i64 c.kind) ∧ w'.cell? ⟨b, off + 1, none⟩ = some (.int .i64 c.sort) ∧ w'.cell? ⟨b, off + 2, none⟩ = some (.string ⟨c.name.toArray⟩) ∧ w'.cell? ⟨b, off + 3, none⟩ = some (.slice A1 n1 p1) ∧ w'.cell? ⟨b, off + 4, none⟩ = some (.slice A2 n2 p2)) (by kernel_rfl) ?_
      refine wpT_take (i := 0) (v := ?_) rfl (by kernel_rfl) (by kernel_rfl) (by kernel_rfl) (by kernel_rfl) (fun _ _ _ h => h) (Or.inl ⟨by rfl, ?_⟩) HSd.out ?_
      rotate_left
      · (intro wq hSw; obtain ⟨q0x, q1x, q2x, q3x, q4x, q5x, q6x, q7x, q8x, q9x⟩ := hSw; go_simp; all_goals (first | (with_reducible rfl) | (rw [if_neg (by first | omega | (simp; omega) | (simp only [List.length_append, List.length_cons, List.length_nil]; omega))])))
      simp only [List.getElem_toArray, List.getElem_cons_succ, List.getElem_cons_zero, Act.put, List.setIfInBounds_toArray, List.set_cons_zero, List.set_cons_succ]
      refine wpT_take (i := 1) (v := ?_) rfl (by kernel_rfl) (by kernel_rfl) (by kernel_rfl) (by kernel_rfl) (fun _ _ _ h => h) (Or.inl ⟨by rfl, ?_⟩) HSd.out ?_
      rotate_left
      · (intro wq hSw; obtain ⟨q0x, q1x, q2x, q3x, q4x, q5x, q6x, q7x, q8x, q9x⟩ := hSw; go_simp; all_goals (first | (with_reducible rfl) | (rw [if_neg (by first | omega | (simp; omega) | (simp only [List.length_append, List.length_cons, List.length_nil]; omega))])))
      simp only [List.getElem_toArray, List.getElem_cons_succ, List.getElem_cons_zero, Act.put, List.setIfInBounds_toArray, List.set_cons_zero, List.set_cons_succ]
      refine wpT_take (i := 2) (v := ?_) rfl (by kernel_rfl) (by kernel_rfl) (by kernel_rfl) (by kernel_rfl) (fun _ _ _ h => h) (Or.inl ⟨by rfl, ?_⟩) HSd.out ?_
      rotate_left
      · (intro wq hSw; obtain ⟨q0x, q1x, q2x, q3x, q4x, q5x, q6x, q7x, q8x, q9x⟩ := hSw; go_simp; all_goals (first | (with_reducible rfl) | (rw [if_neg (by first | omega | (simp; omega) | (simp only [List.length_append, List.length_cons, List.length_nil]; omega))])))
      simp only [List.getElem_toArray, List.getElem_cons_succ, List.getElem_cons_zero, Act.put, List.setIfInBounds_toArray, List.set_cons_zero, List.set_cons_succ]
      refine wpT_take (i := 3) (v := ?_) rfl (by kernel_rfl) (by kernel_rfl) (by kernel_rfl) (by kernel_rfl) (fun _ _ _ h => h) (Or.inl ⟨by rfl, ?_⟩) HSd.out ?_
      rotate_left
      · (intro wq hSw; obtain ⟨q0x, q1x, q2x, q3x, q4x, q5x, q6x, q7x, q8x, q9x⟩ := hSw; go_simp; all_goals (first | (with_reducible rfl) | (rw [if_neg (by first | omega | (simp; omega) | (simp only [List.length_append, List.length_cons, List.length_nil]; omega))])))
      simp only [List.getElem_toArray, List.getElem_cons_succ, List.getElem_cons_zero, Act.put, List.setIfInBounds_toArray, List.set_cons_zero, List.set_cons_succ]
      refine wpT_take (i := 4) (v := ?_) rfl (by kernel_rfl) (by kernel_rfl) (by kernel_rfl) (by kernel_rfl) (fun _ _ _ h => h) (Or.inl ⟨by rfl, ?_⟩) HSd.out ?_
      rotate_left
      · (intro wq hSw; obtain ⟨q0x, q1x, q2x, q3x, q4x, q5x, q6x, q7x, q8x, q9x⟩ := hSw; go_simp; all_goals (first | (with_reducible rfl) | (rw [if_neg (by first | omega | (simp; omega) | (simp only [List.length_append, List.length_cons, List.length_nil]; omega))])))
      simp only [List.getElem_toArray, List.getElem_cons_succ, List.getElem_cons_zero, Act.put, List.setIfInBounds_toArray, List.set_cons_zero, List.set_cons_succ]
      refine wpT_take (i := 5) (v := ?_) rfl (by kernel_rfl) (by kernel_rfl) (by kernel_rfl) (by kernel_rfl) (fun _ _ _ h => h) (Or.inl ⟨by rfl, ?_⟩) HSd.out ?_
      rotate_left
      · (intro wq hSw; obtain ⟨q0x, q1x, q2x, q3x, q4x, q5x, q6x, q7x, q8x, q9x⟩ := hSw; go_simp; all_goals (first | (with_reducible rfl) | (rw [if_neg (by first | omega | (simp; omega) | (simp only [List.length_append, List.length_cons, List.length_nil]; omega))])))
      simp only [List.getElem_toArray, List.getElem_cons_succ, List.getElem_cons_zero, Act.put, List.setIfInBounds_toArray, List.set_cons_zero, List.set_cons_succ]
      refine wpT_take (i := 6) (v := ?_) rfl (by kernel_rfl) (by kernel_rfl) (by kernel_rfl) (by kernel_rfl) (fun _ _ _ h => h) (Or.inl ⟨by rfl, ?_⟩) HSd.out ?_
      rotate_left
      · (intro wq hSw; obtain ⟨q0x, q1x, q2x, q3x, q4x, q5x, q6x, q7x, q8x, q9x⟩ := hSw; go_simp; all_goals (first | (with_reducible rfl) | (rw [if_neg (by first | omega | (simp; omega) | (simp only [List.length_append, List.length_cons, List.length_nil]; omega))])))
      simp only [List.getElem_toArray, List.getElem_cons_succ, List.getElem_cons_zero, Act.put, List.setIfInBounds_toArray, List.set_cons_zero, List.set_cons_succ]
      refine wpT_one (i := 7) rfl (by kernel_rfl) fun K hK => ?_
      go_simp
      have hD0 : ∀ b, (fun b => b ≠ w.heap.size ∧ b ≠ (w.heap.size + 1)) b → b < wr.heap.size → (fun b => (fun b => b ≠ w.heap.size ∧ b ≠ (w.heap.size + 1)) b ∧ b < wr.heap.size) b := fun b h hl => ⟨h, hl⟩
      have hcall := put_any (fun b => (b ≠ w.heap.size ∧ b ≠ w.heap.size + 1) ∧ b < wr.heap.size) u (.agg #[.int .i64 u.kind, .int .i64 u.sort, .string ⟨u.name.toArray⟩, .slice L1 l1 q1, .slice (some ⟨b, off, none⟩) 1 q2]) u.name hgu (parts c) c (.agg #[.int .i64 c.kind, .int .i64 c.sort, .string ⟨c.name.toArray⟩, .slice A1 n1 p1, .slice A2 n2 p2]) wr.drew (Nat.le_refl _) (fun b h => h.2) ((tyD_of HL'.out HK'.out).keep (w' := wr.drew) (fun _ _ _ => rfl) hD0) hgc (HU.out.keep (w' := wr.drew) (fun _ _ _ => rfl) hD0)
      unfold PutSays at hcall
      refine hcall.mono ?_; clear hcall
      rintro e w1 ⟨r, rfl, hr, hb1⟩
      have hb1' : Below wr.heap.size wr w1 := chain (Below.refl wr.heap.size wr).drew hb1
      obtain ⟨cs, hcs2⟩ : ∃ y, sub u.name u c = y := ⟨_, rfl⟩
      rw [hcs2] at hr hgs hcs
      have HNX2 : Hid (headN g' cs = HN) := by rw [← hcs2]; exact HNX.out
      clear hcs2
      obtain ⟨lr, kr, rfl, hr1, hr2⟩ := hr
      have HR1 := Lib.hid hr1; have HR2 := Lib.hid hr2
      obtain ⟨Ar, pr, rfl, -, -⟩ := hr1
      obtain ⟨Br, qr, rfl, -, -⟩ := hr2
      refine hK.out _ _ (fun _ => HSB.out w1 hb1') ?_
      clear hK K
      try simp only [List.getElem_toArray, List.getElem_cons_succ, List.getElem_cons_zero, Act.put, List.setIfInBounds_toArray, List.set_cons_zero, List.set_cons_succ]
      have hUB1 := hUB.keep hb1' hUB.lt
      have hRB1 := hRB.keep hb1' hRB.lt
      obtain ⟨z0, z1, z2, z3, z4, z5, z6⟩ := id hUB1
      refine wpT_one (i := 8) rfl (by kernel_rfl) fun K hK => ?_
      go_simp
      refine hK.out _ _ (fun h => absurd h (by decide)) ?_
      clear hK K
      try simp only [List.getElem_toArray, List.getElem_cons_succ, List.getElem_cons_zero, Act.put, List.setIfInBounds_toArray, List.set_cons_zero, List.set_cons_succ]
      refine wpT_done (by kernel_rfl) ?_
      have hUB2 := hUB1.fill cs (.slice Ar cs.labels.length pr) (.slice Br cs.kids.length qr)
      have hRB2 := hRB1.far5 (q := w.heap.size) (by omega) (.int .i64 cs.kind) (.int .i64 cs.sort) (.string ⟨cs.name.toArray⟩) (.slice Ar cs.labels.length pr) (.slice Br cs.kids.length qr)
      have hcont : TyD (fun b => b ≠ w.heap.size ∧ b ≠ (w.heap.size + 1)) w1 (.agg #[.int .i64 cs.kind, .int .i64 cs.sort, .string ⟨cs.name.toArray⟩, .slice Ar cs.labels.length pr, .slice Br cs.kids.length qr]) cs := (tyD_of HR1.out HR2.out).keep (fun _ _ _ => rfl) (fun b h _ => by
        have hB1 := hUB.lt
        have hR1 := hRB.lt
        rcases h with h | h
        · exact h.1
        · have h' : wr.heap.size ≤ b := h
          exact ⟨by omega, by omega⟩)
      have hcont2 := hcont.keep (D' := (fun b => b ≠ w.heap.size ∧ b ≠ (w.heap.size + 1))) (Same.fill (b := w.heap.size) (fun h => h.1 rfl) (.int .i64 cs.kind) (.int .i64 cs.sort) (.string ⟨cs.name.toArray⟩) (.slice Ar cs.labels.length pr) (.slice Br cs.kids.length qr)) (fun b h _ => h)
      have hb2 := below_fill (chain hb hb1') (b := w.heap.size) (by omega) (.int .i64 cs.kind) (.int .i64 cs.sort) (.string ⟨cs.name.toArray⟩) (.slice Ar cs.labels.length pr) (.slice Br cs.kids.length qr)
      generalize (((((w1.setCell ⟨w.heap.size, 0, none⟩ (.int .i64 cs.kind)).setCell ⟨w.heap.size, 1, none⟩ (.int .i64 cs.sort)).setCell ⟨w.heap.size, 2, none⟩ (.string ⟨cs.name.toArray⟩)).setCell ⟨w.heap.size, 3, none⟩ (.slice Ar cs.labels.length pr)).setCell ⟨w.heap.size, 4, none⟩ (.slice Br cs.kids.length qr)) = w4 at hUB2 hRB2 hcont2 hb2 ⊢
      clear HSB HSd
      go_wp2_with fail
      go_roundg g'
      case measure => omega
      case rel => exact ⟨cs, Ar, _, pr, Br, _, qr, hcs, hgs, HNX2.out, hUB2, hcont2, hRB2, hb2⟩
    · obtain rfl : gk = 0 := by
        cases gk with
        | zero => rfl
        | succ g' => exact absurd hcu.1 k8
      have hend : u = HN := hhu
      have hk8 : (u.kind == 8) = false := by simp [k8]
      clear HE
      have HE := Lib.hid hend
      have HHU := Lib.hid hu
      clear hhu hend hu1 hu2 k8 hcu hu
      have hsz := size_any (parts u) u (.agg #[.int .i64 u.kind, .int .i64 u.sort, .string ⟨u.name.toArray⟩, .slice L1 l1 q1, .slice L2 l2 q2]) wr (Nat.le_refl _) HHU.out.is (good_fit hgu)
      have HSZ := Lib.hid hsz; clear hsz
      obtain ⟨Z, hZ⟩ : ∃ x, sizeW u = x := ⟨_, rfl⟩
      have HZZ := Lib.hid hZ
      go_wp2_with fail
      refine HSZ.out.mono ?_; rw [hZ]; rintro e w1 ⟨rfl, hb1⟩
      clear hZ
      have hUB1 := hUB.keep hb1 hUB.lt
      have hRB1 := hRB.keep hb1 hRB.lt
      have hbw := chain hb hb1
      have hc1 := HHU.out.keep (D' := fun b => b ≠ w.heap.size ∧ b ≠ w.heap.size + 1) (Same.below hb1) (fun b h _ => h)
      obtain ⟨u0, u1, u2, u3, u4, u5, u6⟩ := id hUB1
      by_cases hbig : 60 < Z
      · have hF := hRB1.fill noTy (.slice none 0 0) (.slice none 0 0)
        have hcontR : True := trivial
        have hb2 := below_fill hbw (b := w.heap.size + 1) (by omega) (.int .i64 noTy.kind) (.int .i64 noTy.sort) (.string ⟨noTy.name.toArray⟩) (.slice none 0 0) (.slice none 0 0)
        simp only [noTy, Ty.kind, Ty.sort, Ty.name] at hF hb2
        obtain ⟨r0, r1, r2, r3, r4, r5, r6⟩ := hRB1
        simp only [Ty.kind, Ty.sort, Ty.name] at r0 r1 r2
        have hdec : decide (60 < Z) = true := by simp [hbig]
        go_wp2_with fail
        generalize (((((w1.setCell ⟨w.heap.size + 1, 0, none⟩ (.int .i64 0)).setCell ⟨w.heap.size + 1, 1, none⟩ (.int .i64 0)).setCell ⟨w.heap.size + 1, 2, none⟩ (.string ⟨#[]⟩)).setCell ⟨w.heap.size + 1, 3, none⟩ (.slice none 0 0)).setCell ⟨w.heap.size + 1, 4, none⟩ (.slice none 0 0)) = w5 at hF hcontR hb2 ⊢
        obtain ⟨d0, d1, d2, d3, d4, d5, d6⟩ := hF
        simp only [noTy, Ty.kind, Ty.sort, Ty.name] at d0 d1 d2
        refine bodyPost_ret (v := .tuple #[.agg #[.int .i64 0, .int .i64 0, .string ⟨#[]⟩, .slice none 0 0, .slice none 0 0], .int .i64 2]) (by simp [results, Tryd.results42, go_sem, d0, d1, d2, d3, d4]) rfl ?_
        refine ⟨.agg #[.int .i64 0, .int .i64 0, .string ⟨#[]⟩, .slice none 0 0, .slice none 0 0], ?_, ?_, hb2⟩
        · rw [← HE2.out, if_pos (by rw [← HE.out, HZZ.out]; exact hbig)]
        · rw [← HR2'.out, if_pos (by rw [← HE.out, HZZ.out]; exact hbig)]
          exact noTy_is w5
      · have hF := hRB1.fill u (.slice L1 l1 q1) (.slice L2 l2 q2)
        have hcontR := hc1.keep (D' := fun _ => True) (Same.fill (b := w.heap.size + 1) (fun h => h.2 rfl) (.int .i64 u.kind) (.int .i64 u.sort) (.string ⟨u.name.toArray⟩) (.slice L1 l1 q1) (.slice L2 l2 q2)) (fun _ _ _ => trivial)
        have hb2 := below_fill hbw (b := w.heap.size + 1) (by omega) (.int .i64 u.kind) (.int .i64 u.sort) (.string ⟨u.name.toArray⟩) (.slice L1 l1 q1) (.slice L2 l2 q2)
        obtain ⟨r0, r1, r2, r3, r4, r5, r6⟩ := hRB1
        simp only [Ty.kind, Ty.sort, Ty.name] at r0 r1 r2
        have hdec : decide (60 < Z) = false := by simp [hbig]
        go_wp2_with fail
        generalize (((((w1.setCell ⟨w.heap.size + 1, 0, none⟩ (.int .i64 u.kind)).setCell ⟨w.heap.size + 1, 1, none⟩ (.int .i64 u.sort)).setCell ⟨w.heap.size + 1, 2, none⟩ (.string ⟨u.name.toArray⟩)).setCell ⟨w.heap.size + 1, 3, none⟩ (.slice L1 l1 q1)).setCell ⟨w.heap.size + 1, 4, none⟩ (.slice L2 l2 q2)) = w5 at hF hcontR hb2 ⊢
        obtain ⟨d0, d1, d2, d3, d4, d5, d6⟩ := hF
        skip
        refine bodyPost_ret (v := .tuple #[.agg #[.int .i64 u.kind, .int .i64 u.sort, .string ⟨u.name.toArray⟩, .slice L1 l1 q1, .slice L2 l2 q2], .int .i64 0]) (by simp [results, Tryd.results42, go_sem, d0, d1, d2, d3, d4]) rfl ?_
        refine ⟨.agg #[.int .i64 u.kind, .int .i64 u.sort, .string ⟨u.name.toArray⟩, .slice L1 l1 q1, .slice L2 l2 q2], ?_, ?_, hb2⟩
        · rw [← HE2.out, if_neg (by rw [← HE.out, HZZ.out]; omega)]
        · rw [← HR2'.out, if_neg (by rw [← HE.out, HZZ.out]; omega), ← HE.out]
          exact hcontR.is
end Go.Proofs.YtcacembpegoghaaDoor
