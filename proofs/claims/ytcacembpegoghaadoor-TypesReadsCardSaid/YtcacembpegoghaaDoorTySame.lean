/-
  The reference's SameType.
-/
import Derived.Test.YtcacembpegoghaaDoorTyT
import Derived.Test.YtcacembpegoghaaDoorHeld
namespace Go.Proofs.YtcacembpegoghaaDoor
open Go.RowKit Go.Proofs
set_option maxRecDepth 100000

set_option maxHeartbeats 4000000 in
/-- Two that lie in memory are the same type. -/
theorem sameType_any : ∀ (m : Nat) (t : Ty) (v v' : Value) (w : World), parts t ≤ m → Fit t → IsTy w v t → IsTy w v' t →
    Calls Tryd.prog 35 #[v, v'] w fun e w' => e = .returned (.bool true) ∧ Below w.heap.size w w' := by
  intro m
  induction m with
  | zero => intro t v v' w h; cases t; simp only [parts] at h; omega
  | succ m ih =>
  intro t v v' w hm hf hv hv'
  obtain ⟨lv, kv, rfl, h1, h2⟩ := hv
  obtain ⟨lv', kv', rfl, h1', h2'⟩ := hv'
  have H1 := Lib.hid h1; have H2 := Lib.hid h2; have H1' := Lib.hid h1'; have H2' := Lib.hid h2'
  obtain ⟨A0, p0, rfl, -, -⟩ := h1
  obtain ⟨A, cap, rfl, -, -⟩ := h2
  obtain ⟨A0', p0', rfl, -, -⟩ := h1'
  obtain ⟨A', cap', rfl, -, -⟩ := h2'
  obtain ⟨f1, f2, f3, f4, f5⟩ := hf.parts
  unfold maxLen at f1 f2 f3 f4
  have HF := Lib.hid f5; clear f5
  have HP : Hid (1 + partss t.kids ≤ m + 1) := by cases t; exact hm
  obtain ⟨ks, hks⟩ : ∃ x, t.kids = x := ⟨_, rfl⟩
  obtain ⟨ls, hls⟩ : ∃ x, t.labels = x := ⟨_, rfl⟩
  rw [hks] at H2 H2' HF HP f4 ⊢
  rw [hls] at H1 H1' f2 f3 ⊢
  obtain ⟨L, hL⟩ : ∃ x, ks.length = x := ⟨_, rfl⟩
  obtain ⟨M, hM⟩ : ∃ x, ls.length = x := ⟨_, rfl⟩
  have HL := Lib.hid hL; have HM := Lib.hid hM; have H3 := Lib.hid f3
  rw [hL] at H2 H2' f4 ⊢
  rw [hM] at H1 H1' f2 ⊢
  clear hL hM hks hls f3
  go_enter Tryd.func35, Tryd.ntmps35
  go_wp2_with fail
  go_loopw [5] (fun i wr => ∃ k : Nat, k ≤ M ∧ i = .int .i64 k ∧ wr.cell? ⟨w.heap.size, 3, none⟩ = some (.slice A0 M p0) ∧ wr.cell? ⟨w.heap.size, 4, none⟩ = some (.slice A L cap) ∧ wr.cell? ⟨w.heap.size + 1, 3, none⟩ = some (.slice A0' M p0') ∧ wr.cell? ⟨w.heap.size + 1, 4, none⟩ = some (.slice A' L cap') ∧ Below w.heap.size w wr) (fun i _ => M - (intOf i).toNat)
  case atStart => exact ⟨0, by omega, rfl, by simp [go_sem], by simp [go_sem], by simp [go_sem], by simp [go_sem], by go_grown⟩
  case round =>
    obtain ⟨k, hk, rfl, x3, x4, y3, y4, hb⟩ := hrel
    by_cases hlt : k < M
    · obtain ⟨l, hl⟩ : ∃ x, ls[k]? = some x := ⟨_, List.getElem?_eq_getElem (by rw [HM.out]; exact hlt)⟩
      have hll := H3.out l (mem_of_at hl)
      obtain ⟨_, _, el, _, hlr⟩ := H1.out.keep hb
      obtain ⟨lb, loff, rfl, hrow⟩ := hlr (by rw [HM.out]; omega)
      injection el with el1 el2 el3
      obtain ⟨_, _, el', _, hlr'⟩ := H1'.out.keep hb
      obtain ⟨lb', loff', rfl, hrow'⟩ := hlr' (by rw [HM.out]; omega)
      injection el' with el1' el2' el3'
      subst el1 el1'
      have c1 := hrow k l hl
      have c2 := hrow' k l hl
      clear el2 el3 el2' el3' hlr hlr' hrow hrow' hl
      go_wp2_with fail
      have hS : ∀ w' : World, Below wr.heap.size wr w' → (fun w' : World => w'.cell? ⟨w.heap.size, 3, none⟩ = some (.slice (some ⟨lb, loff, none⟩) M p0) ∧ w'.cell? ⟨w.heap.size + 1, 3, none⟩ = some (.slice (some ⟨lb', loff', none⟩) M p0') ∧ w'.cell? ⟨lb, loff + k, none⟩ = some (.string ⟨l.toArray⟩) ∧ w'.cell? ⟨lb', loff' + k, none⟩ = some (.string ⟨l.toArray⟩)) w' := fun w' h => ⟨cell_keep x3 h, cell_keep y3 h, cell_keep c1 h, cell_keep c2 h⟩
      have HSd := Lib.hid (hS wr.drew (Below.refl _ _).drew)
      clear hS
      refine wp_region_T 11 (fun w' : World => w'.cell? ⟨w.heap.size, 3, none⟩ = some (.slice (some ⟨lb, loff, none⟩) M p0) ∧ w'.cell? ⟨w.heap.size + 1, 3, none⟩ = some (.slice (some ⟨lb', loff', none⟩) M p0') ∧ w'.cell? ⟨lb, loff + k, none⟩ = some (.string ⟨l.toArray⟩) ∧ w'.cell? ⟨lb', loff' + k, none⟩ = some (.string ⟨l.toArray⟩)) (by kernel_rfl) ?_
      refine wpT_take (i := 0) (v := ?_) rfl (by kernel_rfl) (by kernel_rfl) (by kernel_rfl) (by kernel_rfl) (fun _ _ _ h => h) (Or.inl ⟨by rfl, ?_⟩) HSd.out ?_
      rotate_left
      · (intro wq hSw; obtain ⟨q0, q1, q2, q3⟩ := hSw; go_simp; all_goals (first | (with_reducible rfl) | (rw [if_neg (by first | omega | (simp; omega) | (simp only [List.length_append, List.length_cons, List.length_nil]; omega))])))
      simp only [List.getElem_toArray, List.getElem_cons_succ, List.getElem_cons_zero, Act.put, List.setIfInBounds_toArray, List.set_cons_zero, List.set_cons_succ]
      refine wpT_take (i := 1) (v := ?_) rfl (by kernel_rfl) (by kernel_rfl) (by kernel_rfl) (by kernel_rfl) (fun _ _ _ h => h) (Or.inl ⟨by rfl, ?_⟩) HSd.out ?_
      rotate_left
      · (intro wq hSw; obtain ⟨q0, q1, q2, q3⟩ := hSw; go_simp; all_goals (first | (with_reducible rfl) | (rw [if_neg (by first | omega | (simp; omega) | (simp only [List.length_append, List.length_cons, List.length_nil]; omega))])))
      simp only [List.getElem_toArray, List.getElem_cons_succ, List.getElem_cons_zero, Act.put, List.setIfInBounds_toArray, List.set_cons_zero, List.set_cons_succ]
      refine wpT_take (i := 2) (v := ?_) rfl (by kernel_rfl) (by kernel_rfl) (by kernel_rfl) (by kernel_rfl) (fun _ _ _ h => h) (Or.inl ⟨by rfl, ?_⟩) HSd.out ?_
      rotate_left
      · (intro wq hSw; obtain ⟨q0, q1, q2, q3⟩ := hSw; go_simp; all_goals (first | (with_reducible rfl) | (rw [if_neg (by first | omega | (simp; omega) | (simp only [List.length_append, List.length_cons, List.length_nil]; omega))])))
      simp only [List.getElem_toArray, List.getElem_cons_succ, List.getElem_cons_zero, Act.put, List.setIfInBounds_toArray, List.set_cons_zero, List.set_cons_succ]
      refine wpT_take (i := 3) (v := ?_) rfl (by kernel_rfl) (by kernel_rfl) (by kernel_rfl) (by kernel_rfl) (fun _ _ _ h => h) (Or.inl ⟨by rfl, ?_⟩) HSd.out ?_
      rotate_left
      · (intro wq hSw; obtain ⟨q0, q1, q2, q3⟩ := hSw; go_simp; all_goals (first | (with_reducible rfl) | (rw [if_neg (by first | omega | (simp; omega) | (simp only [List.length_append, List.length_cons, List.length_nil]; omega))])))
      simp only [List.getElem_toArray, List.getElem_cons_succ, List.getElem_cons_zero, Act.put, List.setIfInBounds_toArray, List.set_cons_zero, List.set_cons_succ]
      refine wpT_take (i := 4) (v := ?_) rfl (by kernel_rfl) (by kernel_rfl) (by kernel_rfl) (by kernel_rfl) (fun _ _ _ h => h) (Or.inl ⟨by rfl, ?_⟩) HSd.out ?_
      rotate_left
      · (intro wq hSw; obtain ⟨q0, q1, q2, q3⟩ := hSw; go_simp; all_goals (first | (with_reducible rfl) | (rw [if_neg (by first | omega | (simp; omega) | (simp only [List.length_append, List.length_cons, List.length_nil]; omega))])))
      simp only [List.getElem_toArray, List.getElem_cons_succ, List.getElem_cons_zero, Act.put, List.setIfInBounds_toArray, List.set_cons_zero, List.set_cons_succ]
      refine wpT_take (i := 5) (v := ?_) rfl (by kernel_rfl) (by kernel_rfl) (by kernel_rfl) (by kernel_rfl) (fun _ _ _ h => h) (Or.inl ⟨by rfl, ?_⟩) HSd.out ?_
      rotate_left
      · (intro wq hSw; obtain ⟨q0, q1, q2, q3⟩ := hSw; go_simp; all_goals (first | (with_reducible rfl) | (rw [if_neg (by first | omega | (simp; omega) | (simp only [List.length_append, List.length_cons, List.length_nil]; omega))])))
      simp only [List.getElem_toArray, List.getElem_cons_succ, List.getElem_cons_zero, Act.put, List.setIfInBounds_toArray, List.set_cons_zero, List.set_cons_succ]
      refine wpT_take (i := 6) (v := ?_) rfl (by kernel_rfl) (by kernel_rfl) (by kernel_rfl) (by kernel_rfl) (fun _ _ _ h => h) (Or.inl ⟨by rfl, ?_⟩) HSd.out ?_
      rotate_left
      · (intro wq hSw; obtain ⟨q0, q1, q2, q3⟩ := hSw; go_simp; all_goals (first | (with_reducible rfl) | (rw [if_neg (by first | omega | (simp; omega) | (simp only [List.length_append, List.length_cons, List.length_nil]; omega))])))
      simp only [List.getElem_toArray, List.getElem_cons_succ, List.getElem_cons_zero, Act.put, List.setIfInBounds_toArray, List.set_cons_zero, List.set_cons_succ]
      refine wpT_take (i := 7) (v := ?_) rfl (by kernel_rfl) (by kernel_rfl) (by kernel_rfl) (by kernel_rfl) (fun _ _ _ h => h) (Or.inl ⟨by rfl, ?_⟩) HSd.out ?_
      rotate_left
      · (intro wq hSw; obtain ⟨q0, q1, q2, q3⟩ := hSw; go_simp; all_goals (first | (with_reducible rfl) | (rw [if_neg (by first | omega | (simp; omega) | (simp only [List.length_append, List.length_cons, List.length_nil]; omega))])))
      simp only [List.getElem_toArray, List.getElem_cons_succ, List.getElem_cons_zero, Act.put, List.setIfInBounds_toArray, List.set_cons_zero, List.set_cons_succ]
      refine wpT_take (i := 8) (v := ?_) rfl (by kernel_rfl) (by kernel_rfl) (by kernel_rfl) (by kernel_rfl) (fun _ _ _ h => h) (Or.inl ⟨by rfl, ?_⟩) HSd.out ?_
      rotate_left
      · (intro wq hSw; obtain ⟨q0, q1, q2, q3⟩ := hSw; go_simp; all_goals (first | (with_reducible rfl) | (rw [if_neg (by first | omega | (simp; omega) | (simp only [List.length_append, List.length_cons, List.length_nil]; omega))])))
      simp only [List.getElem_toArray, List.getElem_cons_succ, List.getElem_cons_zero, Act.put, List.setIfInBounds_toArray, List.set_cons_zero, List.set_cons_succ]
      refine wpT_take (i := 9) (v := ?_) rfl (by kernel_rfl) (by kernel_rfl) (by kernel_rfl) (by kernel_rfl) (fun _ _ _ h => h) (Or.inl ⟨by rfl, ?_⟩) HSd.out ?_
      rotate_left
      · (intro wq hSw; obtain ⟨q0, q1, q2, q3⟩ := hSw; go_simp; all_goals (first | (with_reducible rfl) | (rw [if_neg (by first | omega | (simp; omega) | (simp only [List.length_append, List.length_cons, List.length_nil]; omega))])))
      simp only [List.getElem_toArray, List.getElem_cons_succ, List.getElem_cons_zero, Act.put, List.setIfInBounds_toArray, List.set_cons_zero, List.set_cons_succ]
      refine wpT_take (i := 10) (v := ?_) rfl (by kernel_rfl) (by kernel_rfl) (by kernel_rfl) (by kernel_rfl) (fun _ _ _ h => h) (Or.inl ⟨by rfl, ?_⟩) HSd.out ?_
      rotate_left
      · (intro wq hSw; obtain ⟨q0, q1, q2, q3⟩ := hSw; go_simp; all_goals (first | (with_reducible rfl) | (rw [if_neg (by first | omega | (simp; omega) | (simp only [List.length_append, List.length_cons, List.length_nil]; omega))])))
      simp only [List.getElem_toArray, List.getElem_cons_succ, List.getElem_cons_zero, Act.put, List.setIfInBounds_toArray, List.set_cons_zero, List.set_cons_succ]
      refine wpT_done (by kernel_rfl) ?_
      go_wp2_with fail
      go_roundw
      case rel => exact ⟨k + 1, by omega, by go_num, x3, x4, y3, y4, hb.drew⟩
      case measure => simp [intOf]; omega
    · obtain rfl : k = M := by omega
      clear hlt
      go_wp2_with fail
      go_loopw [6] (fun i wr => ∃ k : Nat, k ≤ L ∧ i = .int .i64 k ∧ wr.cell? ⟨w.heap.size, 4, none⟩ = some (.slice A L cap) ∧ wr.cell? ⟨w.heap.size + 1, 4, none⟩ = some (.slice A' L cap') ∧ Below w.heap.size w wr) (fun i _ => L - (intOf i).toNat)
      case atStart => exact ⟨0, by omega, rfl, x4, y4, hb⟩
      case round =>
        clear x3 x4 y3 y4 hb
        obtain ⟨k, hk, rfl, x4, y4, hb⟩ := hrel
        by_cases hlt : k < L
        · obtain ⟨c, hc⟩ : ∃ x, ks[k]? = some x := ⟨_, List.getElem?_eq_getElem (by rw [HL.out]; exact hlt)⟩
          have HC := Lib.hid hc
          obtain ⟨-, -, b, off, A1, n1, q1, A2, n2, q2, rfl, c0, c1, c2, c3, c4, hl', hk'⟩ := kid_at (H2.out.keep hb) hc
          obtain ⟨-, -, b', off', A3, n3, q3, A4, n4, q4, rfl, d0, d1, d2, d3, d4, hl2, hk2⟩ := kid_at (H2'.out.keep hb) hc
          have hcp : parts c ≤ m := by have h1 := parts_at (mem_of_at HC.out); have h2 := HP.out; omega
          have hcall := fun wq (h : Below wr.heap.size wr wq) => ih c (.agg #[.int .i64 c.kind, .int .i64 c.sort, .string ⟨c.name.toArray⟩, .slice A1 n1 q1, .slice A2 n2 q2]) (.agg #[.int .i64 c.kind, .int .i64 c.sort, .string ⟨c.name.toArray⟩, .slice A3 n3 q3, .slice A4 n4 q4]) wq hcp (HF.out c (mem_of_at HC.out)) ((isTy_of hl' hk').keep h) ((isTy_of hl2 hk2).keep h)
          have HCL := Lib.hid hcall
          clear hl' hk' hl2 hk2 hc hcall
          go_wp2_with fail
          have hS : ∀ w' : World, Below wr.heap.size wr w' → (fun w' : World => w'.cell? ⟨w.heap.size, 4, none⟩ = some (.slice (some ⟨b, off, none⟩) L cap) ∧ w'.cell? ⟨w.heap.size + 1, 4, none⟩ = some (.slice (some ⟨b', off', none⟩) L cap') ∧ w'.cell? ⟨b, off + k * 5, none⟩ = some (.int .i64 c.kind) ∧ w'.cell? ⟨b, off + k * 5 + 1, none⟩ = some (.int .i64 c.sort) ∧ w'.cell? ⟨b, off + k * 5 + 2, none⟩ = some (.string ⟨c.name.toArray⟩) ∧ w'.cell? ⟨b, off + k * 5 + 3, none⟩ = some (.slice A1 n1 q1) ∧ w'.cell? ⟨b, off + k * 5 + 4, none⟩ = some (.slice A2 n2 q2) ∧ w'.cell? ⟨b', off' + k * 5, none⟩ = some (.int .i64 c.kind) ∧ w'.cell? ⟨b', off' + k * 5 + 1, none⟩ = some (.int .i64 c.sort) ∧ w'.cell? ⟨b', off' + k * 5 + 2, none⟩ = some (.string ⟨c.name.toArray⟩) ∧ w'.cell? ⟨b', off' + k * 5 + 3, none⟩ = some (.slice A3 n3 q3) ∧ w'.cell? ⟨b', off' + k * 5 + 4, none⟩ = some (.slice A4 n4 q4)) w' := fun w' h => ⟨cell_keep x4 h, cell_keep y4 h, cell_keep c0 h, cell_keep c1 h, cell_keep c2 h, cell_keep c3 h, cell_keep c4 h, cell_keep d0 h, cell_keep d1 h, cell_keep d2 h, cell_keep d3 h, cell_keep d4 h⟩
          have HSd := Lib.hid (hS wr.drew (Below.refl _ _).drew)
          have HSB := Lib.hid hS; clear hS
          refine wp_region_T 12 (fun w' : World => w'.cell? ⟨w.heap.size, 4, none⟩ = some (.slice (some ⟨b, off, none⟩) L cap) ∧ w'.cell? ⟨w.heap.size + 1, 4, none⟩ = some (.slice (some ⟨b', off', none⟩) L cap') ∧ w'.cell? ⟨b, off + k * 5, none⟩ = some (.int .i64 c.kind) ∧ w'.cell? ⟨b, off + k * 5 + 1, none⟩ = some (.int .i64 c.sort) ∧ w'.cell? ⟨b, off + k * 5 + 2, none⟩ = some (.string ⟨c.name.toArray⟩) ∧ w'.cell? ⟨b, off + k * 5 + 3, none⟩ = some (.slice A1 n1 q1) ∧ w'.cell? ⟨b, off + k * 5 + 4, none⟩ = some (.slice A2 n2 q2) ∧ w'.cell? ⟨b', off' + k * 5, none⟩ = some (.int .i64 c.kind) ∧ w'.cell? ⟨b', off' + k * 5 + 1, none⟩ = some (.int .i64 c.sort) ∧ w'.cell? ⟨b', off' + k * 5 + 2, none⟩ = some (.string ⟨c.name.toArray⟩) ∧ w'.cell? ⟨b', off' + k * 5 + 3, none⟩ = some (.slice A3 n3 q3) ∧ w'.cell? ⟨b', off' + k * 5 + 4, none⟩ = some (.slice A4 n4 q4)) (by kernel_rfl) ?_
          refine wpT_take (i := 0) (v := ?_) rfl (by kernel_rfl) (by kernel_rfl) (by kernel_rfl) (by kernel_rfl) (fun _ _ _ h => h) (Or.inl ⟨by rfl, ?_⟩) HSd.out ?_
          rotate_left
          · (intro wq hSw; obtain ⟨g0, g1, g2, g3, g4, g5, g6, g7, g8, g9, g10, g11⟩ := hSw; go_simp; all_goals (first | (with_reducible rfl) | (rw [if_neg (by first | omega | (simp; omega) | (simp only [List.length_append, List.length_cons, List.length_nil]; omega))])))
          simp only [List.getElem_toArray, List.getElem_cons_succ, List.getElem_cons_zero, Act.put, List.setIfInBounds_toArray, List.set_cons_zero, List.set_cons_succ]
          refine wpT_take (i := 1) (v := ?_) rfl (by kernel_rfl) (by kernel_rfl) (by kernel_rfl) (by kernel_rfl) (fun _ _ _ h => h) (Or.inl ⟨by rfl, ?_⟩) HSd.out ?_
          rotate_left
          · (intro wq hSw; obtain ⟨g0, g1, g2, g3, g4, g5, g6, g7, g8, g9, g10, g11⟩ := hSw; go_simp; all_goals (first | (with_reducible rfl) | (rw [if_neg (by first | omega | (simp; omega) | (simp only [List.length_append, List.length_cons, List.length_nil]; omega))])))
          simp only [List.getElem_toArray, List.getElem_cons_succ, List.getElem_cons_zero, Act.put, List.setIfInBounds_toArray, List.set_cons_zero, List.set_cons_succ]
          refine wpT_take (i := 2) (v := ?_) rfl (by kernel_rfl) (by kernel_rfl) (by kernel_rfl) (by kernel_rfl) (fun _ _ _ h => h) (Or.inl ⟨by rfl, ?_⟩) HSd.out ?_
          rotate_left
          · (intro wq hSw; obtain ⟨g0, g1, g2, g3, g4, g5, g6, g7, g8, g9, g10, g11⟩ := hSw; go_simp; all_goals (first | (with_reducible rfl) | (rw [if_neg (by first | omega | (simp; omega) | (simp only [List.length_append, List.length_cons, List.length_nil]; omega))])))
          simp only [List.getElem_toArray, List.getElem_cons_succ, List.getElem_cons_zero, Act.put, List.setIfInBounds_toArray, List.set_cons_zero, List.set_cons_succ]
          refine wpT_take (i := 3) (v := ?_) rfl (by kernel_rfl) (by kernel_rfl) (by kernel_rfl) (by kernel_rfl) (fun _ _ _ h => h) (Or.inl ⟨by rfl, ?_⟩) HSd.out ?_
          rotate_left
          · (intro wq hSw; obtain ⟨g0, g1, g2, g3, g4, g5, g6, g7, g8, g9, g10, g11⟩ := hSw; go_simp; all_goals (first | (with_reducible rfl) | (rw [if_neg (by first | omega | (simp; omega) | (simp only [List.length_append, List.length_cons, List.length_nil]; omega))])))
          simp only [List.getElem_toArray, List.getElem_cons_succ, List.getElem_cons_zero, Act.put, List.setIfInBounds_toArray, List.set_cons_zero, List.set_cons_succ]
          refine wpT_take (i := 4) (v := ?_) rfl (by kernel_rfl) (by kernel_rfl) (by kernel_rfl) (by kernel_rfl) (fun _ _ _ h => h) (Or.inl ⟨by rfl, ?_⟩) HSd.out ?_
          rotate_left
          · (intro wq hSw; obtain ⟨g0, g1, g2, g3, g4, g5, g6, g7, g8, g9, g10, g11⟩ := hSw; go_simp; all_goals (first | (with_reducible rfl) | (rw [if_neg (by first | omega | (simp; omega) | (simp only [List.length_append, List.length_cons, List.length_nil]; omega))])))
          simp only [List.getElem_toArray, List.getElem_cons_succ, List.getElem_cons_zero, Act.put, List.setIfInBounds_toArray, List.set_cons_zero, List.set_cons_succ]
          refine wpT_take (i := 5) (v := ?_) rfl (by kernel_rfl) (by kernel_rfl) (by kernel_rfl) (by kernel_rfl) (fun _ _ _ h => h) (Or.inl ⟨by rfl, ?_⟩) HSd.out ?_
          rotate_left
          · (intro wq hSw; obtain ⟨g0, g1, g2, g3, g4, g5, g6, g7, g8, g9, g10, g11⟩ := hSw; go_simp; all_goals (first | (with_reducible rfl) | (rw [if_neg (by first | omega | (simp; omega) | (simp only [List.length_append, List.length_cons, List.length_nil]; omega))])))
          simp only [List.getElem_toArray, List.getElem_cons_succ, List.getElem_cons_zero, Act.put, List.setIfInBounds_toArray, List.set_cons_zero, List.set_cons_succ]
          refine wpT_take (i := 6) (v := ?_) rfl (by kernel_rfl) (by kernel_rfl) (by kernel_rfl) (by kernel_rfl) (fun _ _ _ h => h) (Or.inl ⟨by rfl, ?_⟩) HSd.out ?_
          rotate_left
          · (intro wq hSw; obtain ⟨g0, g1, g2, g3, g4, g5, g6, g7, g8, g9, g10, g11⟩ := hSw; go_simp; all_goals (first | (with_reducible rfl) | (rw [if_neg (by first | omega | (simp; omega) | (simp only [List.length_append, List.length_cons, List.length_nil]; omega))])))
          simp only [List.getElem_toArray, List.getElem_cons_succ, List.getElem_cons_zero, Act.put, List.setIfInBounds_toArray, List.set_cons_zero, List.set_cons_succ]
          refine wpT_take (i := 7) (v := ?_) rfl (by kernel_rfl) (by kernel_rfl) (by kernel_rfl) (by kernel_rfl) (fun _ _ _ h => h) (Or.inl ⟨by rfl, ?_⟩) HSd.out ?_
          rotate_left
          · (intro wq hSw; obtain ⟨g0, g1, g2, g3, g4, g5, g6, g7, g8, g9, g10, g11⟩ := hSw; go_simp; all_goals (first | (with_reducible rfl) | (rw [if_neg (by first | omega | (simp; omega) | (simp only [List.length_append, List.length_cons, List.length_nil]; omega))])))
          simp only [List.getElem_toArray, List.getElem_cons_succ, List.getElem_cons_zero, Act.put, List.setIfInBounds_toArray, List.set_cons_zero, List.set_cons_succ]
          refine wpT_take (i := 8) (v := ?_) rfl (by kernel_rfl) (by kernel_rfl) (by kernel_rfl) (by kernel_rfl) (fun _ _ _ h => h) (Or.inl ⟨by rfl, ?_⟩) HSd.out ?_
          rotate_left
          · (intro wq hSw; obtain ⟨g0, g1, g2, g3, g4, g5, g6, g7, g8, g9, g10, g11⟩ := hSw; go_simp; all_goals (first | (with_reducible rfl) | (rw [if_neg (by first | omega | (simp; omega) | (simp only [List.length_append, List.length_cons, List.length_nil]; omega))])))
          simp only [List.getElem_toArray, List.getElem_cons_succ, List.getElem_cons_zero, Act.put, List.setIfInBounds_toArray, List.set_cons_zero, List.set_cons_succ]
          refine wpT_take (i := 9) (v := ?_) rfl (by kernel_rfl) (by kernel_rfl) (by kernel_rfl) (by kernel_rfl) (fun _ _ _ h => h) (Or.inl ⟨by rfl, ?_⟩) HSd.out ?_
          rotate_left
          · (intro wq hSw; obtain ⟨g0, g1, g2, g3, g4, g5, g6, g7, g8, g9, g10, g11⟩ := hSw; go_simp; all_goals (first | (with_reducible rfl) | (rw [if_neg (by first | omega | (simp; omega) | (simp only [List.length_append, List.length_cons, List.length_nil]; omega))])))
          simp only [List.getElem_toArray, List.getElem_cons_succ, List.getElem_cons_zero, Act.put, List.setIfInBounds_toArray, List.set_cons_zero, List.set_cons_succ]
          refine wpT_one (i := 10) rfl (by kernel_rfl) fun K hK => ?_
          go_simp
          refine (HCL.out wr.drew (Below.refl _ _).drew).mono ?_; rintro e w1 ⟨rfl, hq⟩
          have hb1 : Below wr.heap.size wr w1 := chain (Below.refl wr.heap.size wr).drew hq
          clear hq
          refine hK.out _ _ (fun _ => HSB.out _ hb1) ?_
          clear hK K
          try simp only [List.getElem_toArray, List.getElem_cons_succ, List.getElem_cons_zero, Act.put, List.setIfInBounds_toArray, List.set_cons_zero, List.set_cons_succ]
          refine wpT_one (i := 11) rfl (by kernel_rfl) fun K hK => ?_
          go_simp
          refine hK.out _ _ (fun _ => HSB.out _ hb1) ?_
          clear hK K
          try simp only [List.getElem_toArray, List.getElem_cons_succ, List.getElem_cons_zero, Act.put, List.setIfInBounds_toArray, List.set_cons_zero, List.set_cons_succ]
          refine wpT_done (by kernel_rfl) ?_
          go_wp2_with fail
          go_roundw
          case rel => exact ⟨k + 1, by omega, by go_num, cell_keep x4 hb1, cell_keep y4 hb1, chain hb hb1⟩
          case measure => simp [intOf]; omega
        · go_wp2_with fail
          go_ret
          exact ⟨rfl, hb⟩
end Go.Proofs.YtcacembpegoghaaDoor
