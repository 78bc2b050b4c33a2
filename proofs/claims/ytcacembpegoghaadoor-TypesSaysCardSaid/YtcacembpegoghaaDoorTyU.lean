/-
  The reference's Head answers 'headN'.
-/
import Derived.Test.YtcacembpegoghaaDoorTyQ4
import Derived.Test.YtcacembpegoghaaDoorTyK
namespace Go.Proofs.YtcacembpegoghaaDoor
open Go.RowKit Go.Proofs
set_option maxRecDepth 100000

theorem headN_step {k : Nat} {u c : Ty} (h : u.kids = [c]) : headN (k + 1) u = headN k (sub u.name u c) := by
  show (match u.kids with | [] => u | c :: _ => headN k (sub u.name u c)) = _
  rw [h]

set_option maxHeartbeats 4000000 in
theorem Head_any (B0 : Blocks) (n : Nat) (t : Ty) (v : Value) (w : World) (hB0 : ∀ b, B0 b → b < w.heap.size) (hv : TyD B0 w v t) (hg : Good t) (hch : Chain n t) :
    Calls Tryd.prog 39 #[v] w fun e w' => ∃ r, e = .returned r ∧ TyD (Out B0 w.heap.size) w' r (headN n t) ∧ Below w.heap.size w w' := by
  obtain ⟨HN, hHN⟩ : ∃ x, headN n t = x := ⟨_, rfl⟩
  rw [hHN]
  have HZ := Lib.hid hv
  obtain ⟨lv, kv, rfl, h1, h2⟩ := hv
  obtain ⟨A0, p0, rfl, -, -⟩ := h1
  obtain ⟨A, cap, rfl, -, -⟩ := h2
  have HHN := Lib.hid hHN; clear hHN
  go_enter Tryd.func39, Tryd.ntmps39
  go_wp2_with fail
  go_loopg [3] n (fun gk _ wr => ∃ (u : Ty) (L1 : Option Addr) (l1 q1 : Nat) (L2 : Option Addr) (l2 q2 : Nat), Chain gk u ∧ Good u ∧ headN gk u = HN ∧ VBox wr w.heap.size u (.slice L1 l1 q1) (.slice L2 l2 q2) ∧ TyD (Out B0 (w.heap.size + 2)) wr (.agg #[.int .i64 u.kind, .int .i64 u.sort, .string ⟨u.name.toArray⟩, .slice L1 l1 q1, .slice L2 l2 q2]) u ∧ VBox wr (w.heap.size + 1) (.mk 0 0 [] [] []) (.slice none 0 0) (.slice none 0 0) ∧ Below w.heap.size w wr)
  case atStart =>
    have hbW : Below w.heap.size w ((w.alloc (.cells #[.int .i64 t.kind, .int .i64 t.sort, .string ⟨t.name.toArray⟩, .slice A0 t.labels.length p0, .slice A t.kids.length cap] 51)).alloc (.cells #[.int .i64 0, .int .i64 0, .string ⟨#[]⟩, .slice none 0 0, .slice none 0 0] 51)) := by go_grown
    exact ⟨t, A0, _, p0, A, _, cap, hch, hg, HHN.out, ⟨by simp [go_sem], by simp [go_sem], by simp [go_sem], by simp [go_sem], by simp [go_sem], fun j => by simp [go_sem], by simp; omega⟩, HZ.out.keep (Same.below hbW) (fun b h _ => Or.inl h), ⟨by simp [go_sem]; rfl, by simp [go_sem]; rfl, by simp [go_sem]; rfl, by simp [go_sem], by simp [go_sem], fun j => by simp [go_sem], by simp⟩, hbW⟩
  case round =>
    obtain ⟨u, L1, l1, q1, L2, l2, q2, hcu, hgu, hhu, hUB, hu, hRB, hb⟩ := hrel
    have hu' := hu
    obtain ⟨_, _, e, hu1, hu2⟩ := hu'
    injection e with e
    have e := congrArg Array.toList e
    simp only [List.cons.injEq, true_and, and_true] at e
    obtain ⟨rfl, rfl⟩ := e
    have HU := Lib.hid hu
    obtain ⟨u0, u1, u2, u3, u4, u5, u6⟩ := id hUB
    by_cases k8 : u.kind = 8
    · obtain ⟨g', rfl⟩ : ∃ g', gk = g' + 1 := by
        cases gk with
        | zero => exact absurd k8 hcu.1
        | succ g' => exact ⟨g', rfl⟩
      obtain ⟨-, c, hkc, hcc⟩ := hcu
      have hl2 : l2 = 1 := by
        obtain ⟨_, _, e, _⟩ := hu2
        injection e with _ e2
        rw [e2, hkc]; rfl
      subst hl2
      rw [hkc] at hu2
      obtain ⟨-, -, b, off, A1, n1, p1, A2, n2, p2, rfl, hbD, c0, c1, c2, c3, c4, hl', hk'⟩ := kid_atD (i := 0) (t := c) hu2 rfl
      simp only [Nat.zero_mul, Nat.add_zero] at c0 c1 c2 c3 c4
      have HL' := Lib.hid hl'; have HK' := Lib.hid hk'
      have hnext : headN g' (sub u.name u c) = HN := by
        rw [← hhu]; exact (headN_step hkc).symm
      have hgc : Good c := hgu.kid c (by rw [hkc]; simp)
      have hgs : Good (sub u.name u c) := sub_good _ hgu c hgc
      have hcs : Chain g' (sub u.name u c) := chain_sub hcc
      have HNX := Lib.hid hnext
      have hk8 : (u.kind == 8) = true := by simp [k8]
      have HKC := Lib.hid hkc
      clear hl' hk' hu1 hu2 hhu hnext hcc k8 hkc hu
      have hS : ∀ w' : World, Below wr.heap.size wr w' → (fun w' : World => w'.cell? ⟨w.heap.size, 0, none⟩ = some (.int .i64 u.kind) ∧ w'.cell? ⟨w.heap.size, 1, none⟩ = some (.int .i64 u.sort) ∧ w'.cell? ⟨w.heap.size, 2, none⟩ = some (.string ⟨u.name.toArray⟩) ∧ w'.cell? ⟨w.heap.size, 3, none⟩ = some (.slice L1 l1 q1) ∧ w'.cell? ⟨w.heap.size, 4, none⟩ = some (.slice (some ⟨b, off, none⟩) 1 q2) ∧ w'.cell? ⟨b, off, none⟩ = some (.int .i64 c.kind) ∧ w'.cell? ⟨b, off + 1, none⟩ = some (.int .i64 c.sort) ∧ w'.cell? ⟨b, off + 2, none⟩ = some (.string ⟨c.name.toArray⟩) ∧ w'.cell? ⟨b, off + 3, none⟩ = some (.slice A1 n1 p1) ∧ w'.cell? ⟨b, off + 4, none⟩ = some (.slice A2 n2 p2)) w' := fun w' h => ⟨cell_keep u0 h, cell_keep u1 h, cell_keep u2 h, cell_keep u3 h, cell_keep u4 h, cell_keep c0 h, cell_keep c1 h, cell_keep c2 h, cell_keep c3 h, cell_keep c4 h⟩
      have HSd := Lib.hid (hS wr.drew (Below.refl _ _).drew)
      have HSB := Lib.hid hS; clear hS
      go_wp2_with fail
      refine wp_region_T 8 (fun w' : World => w'.cell? ⟨w.heap.size, 0, none⟩ = some (.int .i64 u.kind) ∧ w'.cell? ⟨w.heap.size, 1, none⟩ = some (.int .i64 u.sort) ∧ w'.cell? ⟨w.heap.size, 2, none⟩ = some (.string ⟨u.name.toArray⟩) ∧ w'.cell? ⟨w.heap.size, 3, none⟩ = some (.slice L1 l1 q1) ∧ w'.cell? ⟨w.heap.size, 4, none⟩ = some (.slice (some ⟨b, off, none⟩) 1 q2) ∧ w'.cell? ⟨b, off, none⟩ = some (.int .i64 c.kind) ∧ w'.cell? ⟨b, off + 1, none⟩ = some (.int .i64 c.sort) ∧ w'.cell? ⟨b, off + 2, none⟩ = some (.string ⟨c.name.toArray⟩) ∧ w'.cell? ⟨b, off + 3, none⟩ = some (.slice A1 n1 p1) ∧ w'.cell? ⟨b, off + 4, none⟩ = some (.slice A2 n2 p2)) (by kernel_rfl) ?_
      refine wpT_take (i := 0) (v := ?_) rfl (by kernel_rfl) (by kernel_rfl) (by kernel_rfl) (by kernel_rfl) (fun _ _ _ h => h) (Or.inl ⟨by rfl, ?_⟩) HSd.out ?_
      rotate_left
      · (intro wq hSw; obtain ⟨q0x, q1x, q2x, q3x, q4x, q5x, q6x, q7x, q8x, q9x⟩ := hSw; go_simp; all_goals (first | (with_reducible rfl) | (rw [if_neg (by first | omega | (simp; omega) | (simp only [List.length_append, List.length_cons, List.length_nil]; omega))])))
      simp only [List.getElem_toArray, List.getElem_cons_succ, List.getElem_cons_zero, Act.put, List.setIfInBounds_toArray, List.set_cons_zero, List.set_cons_succ]
      refine wpT_take (i := 1) (v := ?_) rfl (by kernel_rfl) (by kernel_rfl) (by kernel_rfl) (by kernel_rfl) (fun _ _ _ h => h) (Or.inl ⟨by rfl, ?_⟩) HSd.out ?_
      rotate_left
      · (intro wq hSw; obtain ⟨q0x, q1x, q2x, q3x, q4x, q5x, q6x, q7x, q8x, q9x⟩ := hSw; go_simp; all_goals (first | (with_reducible rfl) | (rw [if_neg (by first | omega | (simp; omega) | (simp only [List.length_append, List.length_cons, List.length_nil]; omega))])))
      simp only [List.getElem_toArray, List.getElem_cons_succ, List.getElem_cons_zero, Act.put, List.setIfInBounds_toArray, List.set_cons_zero, List.set_cons_succ]
      refine wpT_take (i := 2) (v := ?_) rfl (by kernel_rfl) (by kernel_rfl) (by kernel_rfl) (by kernel_rfl) (fun _ _ _ h => h) (Or.inl ⟨by rfl, ?_⟩) HSd.out ?_
      rotate_left
      · (intro wq hSw; obtain ⟨q0x, q1x, q2x, q3x, q4x, q5x, q6x, q7x, q8x, q9x⟩ := hSw; go_simp; all_goals (first | (with_reducible rfl) | (rw [if_neg (by first | omega | (simp; omega) | (simp only [List.length_append, List.length_cons, List.length_nil]; omega))])))
      simp only [List.getElem_toArray, List.getElem_cons_succ, List.getElem_cons_zero, Act.put, List.setIfInBounds_toArray, List.set_cons_zero, List.set_cons_succ]
      refine wpT_take (i := 3) (v := ?_) rfl (by kernel_rfl) (by kernel_rfl) (by kernel_rfl) (by kernel_rfl) (fun _ _ _ h => h) (Or.inl ⟨by rfl, ?_⟩) HSd.out ?_
      rotate_left
      · (intro wq hSw; obtain ⟨q0x, q1x, q2x, q3x, q4x, q5x, q6x, q7x, q8x, q9x⟩ := hSw; go_simp; all_goals (first | (with_reducible rfl) | (rw [if_neg (by first | omega | (simp; omega) | (simp only [List.length_append, List.length_cons, List.length_nil]; omega))])))
      simp only [List.getElem_toArray, List.getElem_cons_succ, List.getElem_cons_zero, Act.put, List.setIfInBounds_toArray, List.set_cons_zero, List.set_cons_succ]
      refine wpT_take (i := 4) (v := ?_) rfl (by kernel_rfl) (by kernel_rfl) (by kernel_rfl) (by kernel_rfl) (fun _ _ _ h => h) (Or.inl ⟨by rfl, ?_⟩) HSd.out ?_
      rotate_left
      · (intro wq hSw; obtain ⟨q0x, q1x, q2x, q3x, q4x, q5x, q6x, q7x, q8x, q9x⟩ := hSw; go_simp; all_goals (first | (with_reducible rfl) | (rw [if_neg (by first | omega | (simp; omega) | (simp only [List.length_append, List.length_cons, List.length_nil]; omega))])))
      simp only [List.getElem_toArray, List.getElem_cons_succ, List.getElem_cons_zero, Act.put, List.setIfInBounds_toArray, List.set_cons_zero, List.set_cons_succ]
      refine wpT_take (i := 5) (v := ?_) rfl (by kernel_rfl) (by kernel_rfl) (by kernel_rfl) (by kernel_rfl) (fun _ _ _ h => h) (Or.inl ⟨by rfl, ?_⟩) HSd.out ?_
      rotate_left
      · (intro wq hSw; obtain ⟨q0x, q1x, q2x, q3x, q4x, q5x, q6x, q7x, q8x, q9x⟩ := hSw; go_simp; all_goals (first | (with_reducible rfl) | (rw [if_neg (by first | omega | (simp; omega) | (simp only [List.length_append, List.length_cons, List.length_nil]; omega))])))
      simp only [List.getElem_toArray, List.getElem_cons_succ, List.getElem_cons_zero, Act.put, List.setIfInBounds_toArray, List.set_cons_zero, List.set_cons_succ]
      refine wpT_take (i := 6) (v := ?_) rfl (by kernel_rfl) (by kernel_rfl) (by kernel_rfl) (by kernel_rfl) (fun _ _ _ h => h) (Or.inl ⟨by rfl, ?_⟩) HSd.out ?_
      rotate_left
      · (intro wq hSw; obtain ⟨q0x, q1x, q2x, q3x, q4x, q5x, q6x, q7x, q8x, q9x⟩ := hSw; go_simp; all_goals (first | (with_reducible rfl) | (rw [if_neg (by first | omega | (simp; omega) | (simp only [List.length_append, List.length_cons, List.length_nil]; omega))])))
      simp only [List.getElem_toArray, List.getElem_cons_succ, List.getElem_cons_zero, Act.put, List.setIfInBounds_toArray, List.set_cons_zero, List.set_cons_succ]
      refine wpT_one (i := 7) rfl (by kernel_rfl) fun K hK => ?_
      go_simp
      have hD0 : ∀ b, (Out B0 (w.heap.size + 2)) b → b < wr.heap.size → (fun b => (Out B0 (w.heap.size + 2)) b ∧ b < wr.heap.size) b := fun b h hl => ⟨h, hl⟩
      have hcall := inPlace_any (fun b => (Out B0 (w.heap.size + 2)) b ∧ b < wr.heap.size) (parts c) c u (.agg #[.int .i64 c.kind, .int .i64 c.sort, .string ⟨c.name.toArray⟩, .slice A1 n1 p1, .slice A2 n2 p2]) (.agg #[.int .i64 u.kind, .int .i64 u.sort, .string ⟨u.name.toArray⟩, .slice L1 l1 q1, .slice (some ⟨b, off, none⟩) 1 q2]) u.name wr.drew (Nat.le_refl _) (fun b h => h.2) ((tyD_of HL'.out HK'.out).keep (w' := wr.drew) (fun _ _ _ => rfl) hD0) hgc (HU.out.keep (w' := wr.drew) (fun _ _ _ => rfl) hD0) hgu
      unfold PutSays at hcall
      refine hcall.mono ?_; clear hcall
      rintro e w1 ⟨r, rfl, hr, hb1⟩
      have hb1' : Below wr.heap.size wr w1 := chain (Below.refl wr.heap.size wr).drew hb1
      obtain ⟨cs, hcs2⟩ : ∃ y, sub u.name u c = y := ⟨_, rfl⟩
      rw [hcs2] at hr hgs hcs
      have HNX2 : Hid (headN g' cs = HN) := by rw [← hcs2]; exact HNX.out
      clear hcs2
      obtain ⟨lr, kr, rfl, hr1, hr2⟩ := hr
      have HR1 := Lib.hid hr1; have HR2 := Lib.hid hr2
      obtain ⟨Ar, pr, rfl, -, -⟩ := hr1
      obtain ⟨Br, qr, rfl, -, -⟩ := hr2
      refine hK.out _ _ (fun _ => HSB.out w1 hb1') ?_
      clear hK K
      try simp only [List.getElem_toArray, List.getElem_cons_succ, List.getElem_cons_zero, Act.put, List.setIfInBounds_toArray, List.set_cons_zero, List.set_cons_succ]
      have hUB1 := hUB.keep hb1' hUB.lt
      have hRB1 := hRB.keep hb1' hRB.lt
      obtain ⟨z0, z1, z2, z3, z4, z5, z6⟩ := id hUB1
      refine wpT_one (i := 8) rfl (by kernel_rfl) fun K hK => ?_
      go_simp
      refine hK.out _ _ (fun h => absurd h (by decide)) ?_
      clear hK K
      try simp only [List.getElem_toArray, List.getElem_cons_succ, List.getElem_cons_zero, Act.put, List.setIfInBounds_toArray, List.set_cons_zero, List.set_cons_succ]
      refine wpT_done (by kernel_rfl) ?_
      have hUB2 := hUB1.fill cs (.slice Ar cs.labels.length pr) (.slice Br cs.kids.length qr)
      have hRB2 := hRB1.far5 (q := w.heap.size) (by omega) (.int .i64 cs.kind) (.int .i64 cs.sort) (.string ⟨cs.name.toArray⟩) (.slice Ar cs.labels.length pr) (.slice Br cs.kids.length qr)
      have hcont : TyD (Out B0 (w.heap.size + 2)) w1 (.agg #[.int .i64 cs.kind, .int .i64 cs.sort, .string ⟨cs.name.toArray⟩, .slice Ar cs.labels.length pr, .slice Br cs.kids.length qr]) cs := (tyD_of HR1.out HR2.out).keep (fun _ _ _ => rfl) (fun b h _ => by
        have hB1 := hUB.lt
        have hR1 := hRB.lt
        rcases h with h | h
        · exact h.1
        · have h' : wr.heap.size ≤ b := h
          exact Or.inr (by omega))
      have hcont2 := hcont.keep (D' := (Out B0 (w.heap.size + 2))) (Same.fill (b := w.heap.size) (fun h => by rcases h with h | h; (have := hB0 _ h; omega); omega) (.int .i64 cs.kind) (.int .i64 cs.sort) (.string ⟨cs.name.toArray⟩) (.slice Ar cs.labels.length pr) (.slice Br cs.kids.length qr)) (fun b h _ => h)
      have hb2 := below_fill (chain hb hb1') (b := w.heap.size) (by omega) (.int .i64 cs.kind) (.int .i64 cs.sort) (.string ⟨cs.name.toArray⟩) (.slice Ar cs.labels.length pr) (.slice Br cs.kids.length qr)
      generalize (((((w1.setCell ⟨w.heap.size, 0, none⟩ (.int .i64 cs.kind)).setCell ⟨w.heap.size, 1, none⟩ (.int .i64 cs.sort)).setCell ⟨w.heap.size, 2, none⟩ (.string ⟨cs.name.toArray⟩)).setCell ⟨w.heap.size, 3, none⟩ (.slice Ar cs.labels.length pr)).setCell ⟨w.heap.size, 4, none⟩ (.slice Br cs.kids.length qr)) = w4 at hUB2 hRB2 hcont2 hb2 ⊢
      clear HSB HSd
      go_wp2_with fail
      go_roundg g'
      case measure => omega
      case rel => exact ⟨cs, Ar, _, pr, Br, _, qr, hcs, hgs, HNX2.out, hUB2, hcont2, hRB2, hb2⟩
    · obtain rfl : gk = 0 := by
        cases gk with
        | zero => rfl
        | succ g' => exact absurd hcu.1 k8
      have hend : u = HN := hhu
      have hk8 : (u.kind == 8) = false := by simp [k8]
      have HE := Lib.hid hend
      have HHU := Lib.hid hu
      clear hhu hend hu1 hu2 k8 hcu hu
      have hF := hRB.fill u (.slice L1 l1 q1) (.slice L2 l2 q2)
      have hcontR := HHU.out.keep (D' := Out B0 w.heap.size) (Same.fill (b := w.heap.size + 1) (fun h => by rcases h with h | h; (have := hB0 _ h; omega); omega) (.int .i64 u.kind) (.int .i64 u.sort) (.string ⟨u.name.toArray⟩) (.slice L1 l1 q1) (.slice L2 l2 q2)) (fun b h _ => by rcases h with h | h; exact Or.inl h; exact Or.inr (by omega))
      have hb2 := below_fill hb (b := w.heap.size + 1) (by omega) (.int .i64 u.kind) (.int .i64 u.sort) (.string ⟨u.name.toArray⟩) (.slice L1 l1 q1) (.slice L2 l2 q2)
      obtain ⟨r0, r1, r2, r3, r4, r5, r6⟩ := hRB
      simp only [Ty.kind, Ty.sort, Ty.name] at r0 r1 r2
      go_wp2_with fail
      generalize (((((wr.setCell ⟨w.heap.size + 1, 0, none⟩ (.int .i64 u.kind)).setCell ⟨w.heap.size + 1, 1, none⟩ (.int .i64 u.sort)).setCell ⟨w.heap.size + 1, 2, none⟩ (.string ⟨u.name.toArray⟩)).setCell ⟨w.heap.size + 1, 3, none⟩ (.slice L1 l1 q1)).setCell ⟨w.heap.size + 1, 4, none⟩ (.slice L2 l2 q2)) = w5 at hF hcontR hb2 ⊢
      obtain ⟨d0, d1, d2, d3, d4, d5, d6⟩ := hF
      refine bodyPost_ret (v := .agg #[.int .i64 u.kind, .int .i64 u.sort, .string ⟨u.name.toArray⟩, .slice L1 l1 q1, .slice L2 l2 q2]) (by simp [results, Tryd.results39, go_sem, d0, d1, d2, d3, d4]) rfl ?_
      refine ⟨_, rfl, ?_, hb2⟩
      rw [← HE.out]
      exact hcontR
end Go.Proofs.YtcacembpegoghaaDoor
