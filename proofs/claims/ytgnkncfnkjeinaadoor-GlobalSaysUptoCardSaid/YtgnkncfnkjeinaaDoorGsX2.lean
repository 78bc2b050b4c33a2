/-
  Texts of choices between conversations: the reference's GlobalText, whole.
-/
import Derived.Test.YtgnkncfnkjeinaaDoorGsX
import Derived.Test.YtgnkncfnkjeinaaDoorM14
namespace Go.Proofs.YtgnkncfnkjeinaaDoor
open Go.RowKit Go.Proofs
set_option maxRecDepth 100000
theorem pairs_at : ∀ {ls ts : List Str} {k : Nat} {l t : Str}, ls[k]? = some l → ts[k]? = some t → (pairs ls ts)[k]? = some (l ++ [58] ++ t)
  | [], _, _, _, _, h, _ => by simp at h
  | _ :: _, [], _, _, _, _, h => by simp at h
  | a :: ls, b :: ts, 0, l, t, h, h' => by simp at h h'; subst h h'; rfl
  | a :: ls, b :: ts, k + 1, l, t, h, h' => by simp only [List.getElem?_cons_succ] at h h'; simp only [pairs, List.getElem?_cons_succ]; exact pairs_at h h'
theorem pairs_length : ∀ {ls ts : List Str}, ls.length = ts.length → (pairs ls ts).length = ls.length
  | [], _, _ => rfl
  | a :: ls, [], h => by simp at h
  | a :: ls, b :: ts, h => by simp only [pairs, List.length_cons]; rw [pairs_length (by simpa using h)]
theorem pairs_le : ∀ {ls ts : List Str}, (∀ l ∈ ls, l.length ≤ 8) → (∀ t ∈ ts, t.length ≤ 6000) → ∀ x ∈ pairs ls ts, x.length ≤ 6009
  | [], _, _, _ => by simp [pairs]
  | _ :: _, [], _, _ => by simp [pairs]
  | a :: ls, b :: ts, h, h' => by
    intro x hx
    simp only [pairs] at hx
    rcases List.mem_cons.1 hx with rfl | hx
    · have h1 := h a (by simp)
      have h2 := h' b (by simp)
      simp only [List.length_append, List.length_cons, List.length_nil]; omega
    · exact pairs_le (fun l hl => h l (by simp [hl])) (fun t ht => h' t (by simp [ht])) x hx

set_option maxHeartbeats 4000000 in
theorem gtext_6 (m : Nat) (ih : ∀ (t : Gl) (v : Value) (w : World), gparts t ≤ m → gparts t ≤ 60 → IsGl w v t → GGood t → GSays 34 t v w)
    (f o : Str) (ls : List Str) (ks : List Gl) (v : Value) (w : World) (hks : ∀ c ∈ ks, gparts c ≤ m ∧ gparts c ≤ 60 ∧ GGood c) (hl6 : ls.length ≤ 6) (hl1 : 1 ≤ ls.length) (hls : ∀ l ∈ ls, l.length ≤ 8) (hlen : ks.length = ls.length) (hf : f.length ≤ 1) (ho : o.length ≤ 1) (hv : IsGl w v (.mk 6 f o 0 [] ls ks))  : GSays 34 (.mk 6 f o 0 [] ls ks) v w := by
  unfold GSays
  obtain ⟨lv, kv, rfl, hs1, hs2⟩ := hv
  simp only [Gl.kind, Gl.frm, Gl.rcv, Gl.sort, Gl.name, Gl.labels, Gl.kids] at hs1 hs2 ⊢
  have HLS := Lib.hid hs1
  obtain ⟨A0, p0, rfl, -, -⟩ := hs1
  have HK := Lib.hid hs2
  obtain ⟨A, cap, rfl, -, -⟩ := hs2

  obtain ⟨P, hP⟩ : ∃ x, pairs ls (gtxts ks) = x := ⟨_, rfl⟩
  have hPl : P.length = ls.length := by rw [← hP, pairs_length (by rw [gtxts_length, hlen])]
  have hPx : ∀ x ∈ P, x.length ≤ 6009 := by
    rw [← hP]
    refine pairs_le hls fun t ht => ?_
    obtain ⟨c, hc, rfl⟩ := gtxts_mem ht
    have h1 := gtxt_len c (hks c hc).2.2
    have h2 := (hks c hc).2.1
    omega
  have hjl : (joined P).length ≤ 40000 := by
    have h1 := joinK_len hPx (k := P.length) (Nat.le_refl _)
    unfold joinK at h1
    rw [List.take_length] at h1
    omega
  have hans : gtxt (.mk 6 f o 0 [] ls ks) = f ++ [62] ++ o ++ [123] ++ joined P ++ [125] := by
    rw [← hP]
    simp [gtxt, gtxtOf]
  rw [hans]
  clear hans
  have HPX := Lib.hid hPx; have HPP := Lib.hid hP; have HKS := Lib.hid hks; have HLE := Lib.hid hls
  obtain ⟨L, hL⟩ : ∃ x, ls.length = x := ⟨_, rfl⟩
  have HL1 := Lib.hid hL; have HL2 := Lib.hid (hlen.trans hL); have HL3 := Lib.hid (hPl.trans hL)
  rw [hlen] at HK ⊢
  rw [hL] at HK HLS hl6 hl1 ⊢
  clear hL hlen hPl hPx hP hks hls
  go_enter Tryd.func34, Tryd.ntmps34
  go_wp2_with fail
  obtain ⟨W, hW⟩ : ∃ W, w.alloc (.cells #[.int .i64 6, .string ⟨f.toArray⟩, .string ⟨o.toArray⟩, .int .i64 0, .string ⟨#[]⟩, .slice A0 L p0, .slice A L cap] 52) = W := ⟨_, rfl⟩
  have hbW : Below w.heap.size w W := by subst hW; go_grown
  have hWs : W.heap.size = w.heap.size + 1 := by subst hW; simp
  have X1 : W.cell? ⟨w.heap.size, 1, none⟩ = some (.string ⟨f.toArray⟩) := by subst hW; simp [go_sem]
  have X2 : W.cell? ⟨w.heap.size, 2, none⟩ = some (.string ⟨o.toArray⟩) := by subst hW; simp [go_sem]
  have X5 : W.cell? ⟨w.heap.size, 5, none⟩ = some (.slice A0 L p0) := by subst hW; simp [go_sem]
  have X6 : W.cell? ⟨w.heap.size, 6, none⟩ = some (.slice A L cap) := by subst hW; simp [go_sem]
  try rw [hW]
  clear hW
  obtain ⟨N, hN⟩ : ∃ x, W.heap.size = x := ⟨_, rfl⟩
  go_loopw [3, 4] (fun lv i wr => ∃ k : Nat, k ≤ L ∧ i = .int .i64 k ∧ wr.ownsRow N 9 1 lv k ((P.take k).map fun s => .string ⟨s.toArray⟩) ∧ Below N W wr) (fun _ i _ => L - (intOf i).toNat)
  case atStart => exact ⟨0, by omega, rfl, World.ownsRow_nil _ _ _ _, Below.refl _ _⟩
  case round =>
    obtain ⟨k, hk, rfl, hown, hbN⟩ := hrel
    have hbr : Below W.heap.size W wr := by rw [hN]; exact hbN
    have hNr : N ≤ wr.heap.size := by rw [← hN]; exact hbr.size
    have x1 := cell_keep X1 hbr
    have x2 := cell_keep X2 hbr
    have x5 := cell_keep X5 hbr
    have x6 := cell_keep X6 hbr
    obtain ⟨Av, capv, rfl⟩ := own_form hown
    by_cases hlt : k < L
    · obtain ⟨c, hc⟩ : ∃ x, ks[k]? = some x := ⟨_, List.getElem?_eq_getElem (by rw [HL2.out]; exact hlt)⟩
      obtain ⟨l, hl⟩ : ∃ x, ls[k]? = some x := ⟨_, List.getElem?_eq_getElem (by rw [HL1.out]; exact hlt)⟩
      have HC := Lib.hid hc; have HLk := Lib.hid hl
      obtain ⟨-, -, b, off, A1, n1, p1, A2, n2, p2, rfl, -, c0, c1, c2, c3, c4, c5, c6, hl', hk'⟩ := gkid_at (HK.out.below hbW) hc
      obtain ⟨lA, lp, el, hlc, hlr⟩ := HLS.out.below hbW
      obtain ⟨lb, loff, rfl, -, hlrow⟩ := hlr (by rw [HL1.out]; omega)
      injection el with el1 el2 el3
      subst el1 el3
      clear el2
      have clab := hlrow k l hl
      have HL' := Lib.hid (hl'.below hbr); have HK' := Lib.hid (hk'.below hbr); clear hl' hk' hc hl hlr hlrow
      have hcm := HKS.out c (mem_of_at HC.out)
      have hll := HLE.out l (mem_of_at HLk.out)
      have htl : (gtxt c).length ≤ 6000 := by have h1 := gtxt_len c hcm.2.2; have h2 := hcm.2.1; omega
      have hpair : P[k]? = some (l ++ [58] ++ gtxt c) := by rw [← HPP.out]; exact pairs_at HLk.out (gtxts_at HC.out)
      obtain ⟨T, hT⟩ : ∃ y, gtxt c = y := ⟨_, rfl⟩
      have HT := Lib.hid hT
      rw [hT] at htl hpair
      have HPR := Lib.hid hpair
      clear hT hpair
      have hlbN : lb < N := by rw [← hN]; exact cell_lt clab
      have hbN' : b < N := by rw [← hN]; exact cell_lt c0
      have hBN : w.heap.size < N := by omega
      replace clab := cell_keep clab hbr
      replace c0 := cell_keep c0 hbr
      replace c1 := cell_keep c1 hbr
      replace c2 := cell_keep c2 hbr
      replace c3 := cell_keep c3 hbr
      replace c4 := cell_keep c4 hbr
      replace c5 := cell_keep c5 hbr
      replace c6 := cell_keep c6 hbr
      have hba : Below wr.heap.size wr wr := Below.refl _ _
      have hsa : wr.heap.size ≤ wr.heap.size := Nat.le_refl _
      have hS : ∀ w' : World, Same (fun b => b < N) wr w' → (fun w' : World => w'.cell? ⟨w.heap.size, 5, none⟩ = some (.slice (some ⟨lb, loff, none⟩) L p0) ∧ w'.cell? ⟨w.heap.size, 6, none⟩ = some (.slice (some ⟨b, off, none⟩) L cap) ∧ w'.cell? ⟨lb, loff + k, none⟩ = some (.string ⟨l.toArray⟩) ∧ w'.cell? ⟨b, off + k * 7, none⟩ = some (.int .i64 c.kind) ∧ w'.cell? ⟨b, off + k * 7 + 1, none⟩ = some (.string ⟨c.frm.toArray⟩) ∧ w'.cell? ⟨b, off + k * 7 + 2, none⟩ = some (.string ⟨c.rcv.toArray⟩) ∧ w'.cell? ⟨b, off + k * 7 + 3, none⟩ = some (.int .i64 c.sort) ∧ w'.cell? ⟨b, off + k * 7 + 4, none⟩ = some (.string ⟨c.name.toArray⟩) ∧ w'.cell? ⟨b, off + k * 7 + 5, none⟩ = some (.slice A1 n1 p1) ∧ w'.cell? ⟨b, off + k * 7 + 6, none⟩ = some (.slice A2 n2 p2)) w' := fun w' h => ⟨h.cell (by omega) x5, h.cell (by omega) x6, h.cell (by omega) clab, h.cell (by omega) c0, h.cell (by omega) c1, h.cell (by omega) c2, h.cell (by omega) c3, h.cell (by omega) c4, h.cell (by omega) c5, h.cell (by omega) c6⟩
      have HSd := Lib.hid (hS wr.drew (fun _ _ _ => rfl))
      have HSB := Lib.hid hS; clear hS
      have hne : ∀ q, q < N → some q ≠ (Value.slice Av k capv).ownBlock := fun q hq e => by
        obtain ⟨h1, h2⟩ := hown.lt q e.symm
        omega
      go_wp2_with fail
      refine wp_region_T 16 (fun w' : World => w'.cell? ⟨w.heap.size, 5, none⟩ = some (.slice (some ⟨lb, loff, none⟩) L p0) ∧ w'.cell? ⟨w.heap.size, 6, none⟩ = some (.slice (some ⟨b, off, none⟩) L cap) ∧ w'.cell? ⟨lb, loff + k, none⟩ = some (.string ⟨l.toArray⟩) ∧ w'.cell? ⟨b, off + k * 7, none⟩ = some (.int .i64 c.kind) ∧ w'.cell? ⟨b, off + k * 7 + 1, none⟩ = some (.string ⟨c.frm.toArray⟩) ∧ w'.cell? ⟨b, off + k * 7 + 2, none⟩ = some (.string ⟨c.rcv.toArray⟩) ∧ w'.cell? ⟨b, off + k * 7 + 3, none⟩ = some (.int .i64 c.sort) ∧ w'.cell? ⟨b, off + k * 7 + 4, none⟩ = some (.string ⟨c.name.toArray⟩) ∧ w'.cell? ⟨b, off + k * 7 + 5, none⟩ = some (.slice A1 n1 p1) ∧ w'.cell? ⟨b, off + k * 7 + 6, none⟩ = some (.slice A2 n2 p2)) (by kernel_rfl) ?_
      refine wpT_take (i := 0) (v := ?_) rfl (by kernel_rfl) (by kernel_rfl) (by kernel_rfl) (by kernel_rfl) (fun _ _ _ h => h) (Or.inl ⟨by rfl, ?_⟩) HSd.out ?_
      rotate_left
      · (intro wq hSw; obtain ⟨q0, q1, q2, q3, q4, q5, q6, q7, q8, q9⟩ := hSw; go_simp; all_goals (first | (with_reducible rfl) | (rw [if_neg (by first | omega | (simp; omega) | (simp only [List.length_append, List.length_cons, List.length_nil]; omega))])))
      simp only [List.getElem_toArray, List.getElem_cons_succ, List.getElem_cons_zero, Act.put, List.setIfInBounds_toArray, List.set_cons_zero, List.set_cons_succ]
      refine wpT_take (i := 1) (v := ?_) rfl (by kernel_rfl) (by kernel_rfl) (by kernel_rfl) (by kernel_rfl) (fun _ _ _ h => h) (Or.inl ⟨by rfl, ?_⟩) HSd.out ?_
      rotate_left
      · (intro wq hSw; obtain ⟨q0, q1, q2, q3, q4, q5, q6, q7, q8, q9⟩ := hSw; go_simp; all_goals (first | (with_reducible rfl) | (rw [if_neg (by first | omega | (simp; omega) | (simp only [List.length_append, List.length_cons, List.length_nil]; omega))])))
      simp only [List.getElem_toArray, List.getElem_cons_succ, List.getElem_cons_zero, Act.put, List.setIfInBounds_toArray, List.set_cons_zero, List.set_cons_succ]
      refine wpT_take (i := 2) (v := ?_) rfl (by kernel_rfl) (by kernel_rfl) (by kernel_rfl) (by kernel_rfl) (fun _ _ _ h => h) (Or.inl ⟨by rfl, ?_⟩) HSd.out ?_
      rotate_left
      · (intro wq hSw; obtain ⟨q0, q1, q2, q3, q4, q5, q6, q7, q8, q9⟩ := hSw; go_simp; all_goals (first | (with_reducible rfl) | (rw [if_neg (by first | omega | (simp; omega) | (simp only [List.length_append, List.length_cons, List.length_nil]; omega))])))
      simp only [List.getElem_toArray, List.getElem_cons_succ, List.getElem_cons_zero, Act.put, List.setIfInBounds_toArray, List.set_cons_zero, List.set_cons_succ]
      refine wpT_take (i := 3) (v := ?_) rfl (by kernel_rfl) (by kernel_rfl) (by kernel_rfl) (by kernel_rfl) (fun _ _ _ h => h) (Or.inl ⟨by rfl, ?_⟩) HSd.out ?_
      rotate_left
      · (intro wq hSw; obtain ⟨q0, q1, q2, q3, q4, q5, q6, q7, q8, q9⟩ := hSw; go_simp; all_goals (first | (with_reducible rfl) | (rw [if_neg (by first | omega | (simp; omega) | (simp only [List.length_append, List.length_cons, List.length_nil]; omega))])))
      simp only [List.getElem_toArray, List.getElem_cons_succ, List.getElem_cons_zero, Act.put, List.setIfInBounds_toArray, List.set_cons_zero, List.set_cons_succ]
      refine wpT_take (i := 4) (v := ?_) rfl (by kernel_rfl) (by kernel_rfl) (by kernel_rfl) (by kernel_rfl) (fun _ _ _ h => h) (Or.inl ⟨by rfl, ?_⟩) HSd.out ?_
      rotate_left
      · (intro wq hSw; obtain ⟨q0, q1, q2, q3, q4, q5, q6, q7, q8, q9⟩ := hSw; go_simp; all_goals (first | (with_reducible rfl) | (rw [if_neg (by first | omega | (simp; omega) | (simp only [List.length_append, List.length_cons, List.length_nil]; omega))])))
      simp only [List.getElem_toArray, List.getElem_cons_succ, List.getElem_cons_zero, Act.put, List.setIfInBounds_toArray, List.set_cons_zero, List.set_cons_succ]
      refine wpT_take (i := 5) (v := ?_) rfl (by kernel_rfl) (by kernel_rfl) (by kernel_rfl) (by kernel_rfl) (fun _ _ _ h => h) (Or.inl ⟨by rfl, ?_⟩) HSd.out ?_
      rotate_left
      · (intro wq hSw; obtain ⟨q0, q1, q2, q3, q4, q5, q6, q7, q8, q9⟩ := hSw; go_simp; all_goals (first | (with_reducible rfl) | (rw [if_neg (by first | omega | (simp; omega) | (simp only [List.length_append, List.length_cons, List.length_nil]; omega))])))
      simp only [List.getElem_toArray, List.getElem_cons_succ, List.getElem_cons_zero, Act.put, List.setIfInBounds_toArray, List.set_cons_zero, List.set_cons_succ]
      refine wpT_take (i := 6) (v := ?_) rfl (by kernel_rfl) (by kernel_rfl) (by kernel_rfl) (by kernel_rfl) (fun _ _ _ h => h) (Or.inl ⟨by rfl, ?_⟩) HSd.out ?_
      rotate_left
      · (intro wq hSw; obtain ⟨q0, q1, q2, q3, q4, q5, q6, q7, q8, q9⟩ := hSw; go_simp; all_goals (first | (with_reducible rfl) | (rw [if_neg (by first | omega | (simp; omega) | (simp only [List.length_append, List.length_cons, List.length_nil]; omega))])))
      simp only [List.getElem_toArray, List.getElem_cons_succ, List.getElem_cons_zero, Act.put, List.setIfInBounds_toArray, List.set_cons_zero, List.set_cons_succ]
      refine wpT_take (i := 7) (v := ?_) rfl (by kernel_rfl) (by kernel_rfl) (by kernel_rfl) (by kernel_rfl) (fun _ _ _ h => h) (Or.inl ⟨by rfl, ?_⟩) HSd.out ?_
      rotate_left
      · (intro wq hSw; obtain ⟨q0, q1, q2, q3, q4, q5, q6, q7, q8, q9⟩ := hSw; go_simp; all_goals (first | (with_reducible rfl) | (rw [if_neg (by first | omega | (simp; omega) | (simp only [List.length_append, List.length_cons, List.length_nil]; omega))])))
      simp only [List.getElem_toArray, List.getElem_cons_succ, List.getElem_cons_zero, Act.put, List.setIfInBounds_toArray, List.set_cons_zero, List.set_cons_succ]
      refine wpT_take (i := 8) (v := ?_) rfl (by kernel_rfl) (by kernel_rfl) (by kernel_rfl) (by kernel_rfl) (fun _ _ _ h => h) (Or.inl ⟨by rfl, ?_⟩) HSd.out ?_
      rotate_left
      · (intro wq hSw; obtain ⟨q0, q1, q2, q3, q4, q5, q6, q7, q8, q9⟩ := hSw; go_simp; all_goals (first | (with_reducible rfl) | (rw [if_neg (by first | omega | (simp; omega) | (simp only [List.length_append, List.length_cons, List.length_nil]; omega))])))
      simp only [List.getElem_toArray, List.getElem_cons_succ, List.getElem_cons_zero, Act.put, List.setIfInBounds_toArray, List.set_cons_zero, List.set_cons_succ]
      refine wpT_take (i := 9) (v := ?_) rfl (by kernel_rfl) (by kernel_rfl) (by kernel_rfl) (by kernel_rfl) (fun _ _ _ h => h) (Or.inl ⟨by rfl, ?_⟩) HSd.out ?_
      rotate_left
      · (intro wq hSw; obtain ⟨q0, q1, q2, q3, q4, q5, q6, q7, q8, q9⟩ := hSw; go_simp; all_goals (first | (with_reducible rfl) | (rw [if_neg (by first | omega | (simp; omega) | (simp only [List.length_append, List.length_cons, List.length_nil]; omega))])))
      simp only [List.getElem_toArray, List.getElem_cons_succ, List.getElem_cons_zero, Act.put, List.setIfInBounds_toArray, List.set_cons_zero, List.set_cons_succ]
      refine wpT_take (i := 10) (v := ?_) rfl (by kernel_rfl) (by kernel_rfl) (by kernel_rfl) (by kernel_rfl) (fun _ _ _ h => h) (Or.inl ⟨by rfl, ?_⟩) HSd.out ?_
      rotate_left
      · (intro wq hSw; obtain ⟨q0, q1, q2, q3, q4, q5, q6, q7, q8, q9⟩ := hSw; go_simp; all_goals (first | (with_reducible rfl) | (rw [if_neg (by first | omega | (simp; omega) | (simp only [List.length_append, List.length_cons, List.length_nil]; omega))])))
      simp only [List.getElem_toArray, List.getElem_cons_succ, List.getElem_cons_zero, Act.put, List.setIfInBounds_toArray, List.set_cons_zero, List.set_cons_succ]
      refine wpT_take (i := 11) (v := ?_) rfl (by kernel_rfl) (by kernel_rfl) (by kernel_rfl) (by kernel_rfl) (fun _ _ _ h => h) (Or.inl ⟨by rfl, ?_⟩) HSd.out ?_
      rotate_left
      · (intro wq hSw; obtain ⟨q0, q1, q2, q3, q4, q5, q6, q7, q8, q9⟩ := hSw; go_simp; all_goals (first | (with_reducible rfl) | (rw [if_neg (by first | omega | (simp; omega) | (simp only [List.length_append, List.length_cons, List.length_nil]; omega))])))
      simp only [List.getElem_toArray, List.getElem_cons_succ, List.getElem_cons_zero, Act.put, List.setIfInBounds_toArray, List.set_cons_zero, List.set_cons_succ]
      refine wpT_one (i := 12) rfl (by kernel_rfl) fun K hK => ?_
      go_simp
      have hcall := ih c (.agg #[.int .i64 c.kind, .string ⟨c.frm.toArray⟩, .string ⟨c.rcv.toArray⟩, .int .i64 c.sort, .string ⟨c.name.toArray⟩, .slice A1 n1 p1, .slice A2 n2 p2]) wr.drew hcm.1 hcm.2.1 (glV_of ((HL'.out.below hba).below (Below.refl wr.heap.size wr).drew) ((HK'.out.below hba).below (Below.refl wr.heap.size wr).drew)) hcm.2.2
      unfold GSays at hcall
      refine hcall.mono ?_; clear hcall; rw [HT.out]; rintro e w1 ⟨rfl, hq⟩
      have hba1 : Below wr.heap.size wr w1 := chain (Below.refl wr.heap.size wr).drew hq
      have hb1 : Below wr.heap.size wr w1 := chain hba hba1
      have hs1 := hb1.size
      have hs2 := hba1.size
      clear hq
      refine hK.out _ _ (fun _ => HSB.out _ (Same.below hba1)) ?_
      clear hK K
      try simp only [List.getElem_toArray, List.getElem_cons_succ, List.getElem_cons_zero, Act.put, List.setIfInBounds_toArray, List.set_cons_zero, List.set_cons_succ]
      refine wpT_take (i := 13) (v := ?_) rfl (by kernel_rfl) (by kernel_rfl) (by kernel_rfl) (by kernel_rfl) (fun _ _ _ h => h) (Or.inl ⟨by rfl, ?_⟩) (HSB.out _ (Same.below hba1)) ?_
      rotate_left
      · (intro wq hSw; obtain ⟨q0, q1, q2, q3, q4, q5, q6, q7, q8, q9⟩ := hSw; go_simp; all_goals (first | (with_reducible rfl) | (rw [if_neg (by first | omega | (simp; omega) | (simp only [List.length_append, List.length_cons, List.length_nil]; omega))])))
      simp only [List.getElem_toArray, List.getElem_cons_succ, List.getElem_cons_zero, Act.put, List.setIfInBounds_toArray, List.set_cons_zero, List.set_cons_succ]
      refine wpT_one (i := 14) rfl (by kernel_rfl) fun K hK => ?_
      go_simp
      have hsA := Below.trans hba1 ((Below.refl _ w1).alloc hs2 (.cells #[.string ⟨(l ++ 58 :: T).toArray⟩] 9))
      have hbA : Below N wr (w1.alloc (.cells #[.string ⟨(l ++ 58 :: T).toArray⟩] 9)) := (hb1.mono hNr).alloc (by omega) _
      refine hK.out _ _ (fun _ => HSB.out _ (Same.below hsA)) ?_
      clear hK K
      try simp only [List.getElem_toArray, List.getElem_cons_succ, List.getElem_cons_zero, Act.put, List.setIfInBounds_toArray, List.set_cons_zero, List.set_cons_succ]
      refine wpT_one (i := 15) rfl (by kernel_rfl) fun K hK => ?_
      refine step_app rt_strs rfl (.tmp 52) (.tmp 66) rfl N (.slice Av k capv) k _ rfl ((own_keep hown hb1 (Nat.le_refl _)).alloc _) ⟨w1.heap.size, 0, none⟩ 1 1 [.string ⟨(l ++ 58 :: T).toArray⟩] rfl rfl (cell_one_new _ _ _) (by simp [Value.oneCell']) (by unfold maxLen; omega) (by omega) (by rw [World.size_alloc]; omega) (fun v' w3 n1' n2' n3' n4' => ?_)
      obtain ⟨Aw, capw, rfl⟩ := own_form n1'
      have hb3 := hbA.trans n4'
      refine hK.out _ _ (fun _ => HSB.out _ (Same.trans (Same.below hsA) hsA.size (Same.grown n2' hne))) ?_
      clear hK K
      try simp only [List.getElem_toArray, List.getElem_cons_succ, List.getElem_cons_zero, Act.put, List.setIfInBounds_toArray, List.set_cons_zero, List.set_cons_succ]
      refine wpT_one (i := 16) rfl (by kernel_rfl) fun K hK => ?_
      go_simp
      refine hK.out _ _ (fun h => absurd h (by decide)) ?_
      clear hK K
      try simp only [List.getElem_toArray, List.getElem_cons_succ, List.getElem_cons_zero, Act.put, List.setIfInBounds_toArray, List.set_cons_zero, List.set_cons_succ]
      refine wpT_done (by kernel_rfl) ?_
      have hown3 : w3.ownsRow N 9 1 (.slice Aw (k + 1) capw) (k + 1) ((P.take (k + 1)).map fun s => .string ⟨s.toArray⟩) := by
        rw [List.take_add_one, HPR.out]
        simpa using n1'
      have hbN3 := hbN.trans hb3
      clear HSB HSd n1' n2' n3' n4' hb3
      go_wp2_with fail
      go_roundw
      case rel => exact ⟨k + 1, by omega, by go_num, hown3, hbN3⟩
      case measure => simp [intOf]; omega
    · have hkL : k = L := by omega
      subst hkL
      clear hlt
      have htk : P.take k = P := List.take_of_length_le (by rw [HL3.out]; exact Nat.le_refl _)
      rw [htk] at hown
      have hstr : ∀ w' : World, Below wr.heap.size wr w' → IsStrs w' (.slice Av k capv) P := fun w' hb' => by
        have h1 : wr.ownsRow N 9 1 (.slice Av k capv) P.length (strVals P) := by rw [HL3.out]; exact hown
        exact (own_strsD (D := fun _ => True) (own_keep h1 hb' (Nat.le_refl _)) fun _ _ => trivial).is
      have hjoin := fun (w' : World) (hb' : Below wr.heap.size wr w') => joined_any P (.slice Av k capv) w' (hstr w' hb') (by rw [HL3.out]; exact hl6) HPX.out
      clear hstr hown
      obtain ⟨J, hJ⟩ : ∃ x, joined P = x := ⟨_, rfl⟩
      rw [hJ] at hjoin hjl
      have HJ := Lib.hid hJ
      have HJN := Lib.hid hjoin
      clear hjoin hJ
      go_wp2_with fail
      have hS : ∀ w' : World, Below wr.heap.size wr w' → (fun w' : World => w'.cell? ⟨w.heap.size, 1, none⟩ = some (.string ⟨f.toArray⟩) ∧ w'.cell? ⟨w.heap.size, 2, none⟩ = some (.string ⟨o.toArray⟩)) w' := fun w' h => ⟨cell_keep x1 h, cell_keep x2 h⟩
      have HSd := Lib.hid (hS wr.drew (Below.refl _ _).drew)
      have HSB := Lib.hid hS; clear hS
      refine wp_region_T 11 (fun w' : World => w'.cell? ⟨w.heap.size, 1, none⟩ = some (.string ⟨f.toArray⟩) ∧ w'.cell? ⟨w.heap.size, 2, none⟩ = some (.string ⟨o.toArray⟩)) (by kernel_rfl) ?_
      refine wpT_take (i := 0) (v := ?_) rfl (by kernel_rfl) (by kernel_rfl) (by kernel_rfl) (by kernel_rfl) (fun _ _ _ h => h) (Or.inl ⟨by rfl, ?_⟩) HSd.out ?_
      rotate_left
      · (intro wq hSw; obtain ⟨q0, q1⟩ := hSw; go_simp; all_goals (first | (with_reducible rfl) | (rw [if_neg (by first | omega | (simp; omega) | (simp only [List.length_append, List.length_cons, List.length_nil]; omega))])))
      simp only [List.getElem_toArray, List.getElem_cons_succ, List.getElem_cons_zero, Act.put, List.setIfInBounds_toArray, List.set_cons_zero, List.set_cons_succ]
      refine wpT_take (i := 1) (v := ?_) rfl (by kernel_rfl) (by kernel_rfl) (by kernel_rfl) (by kernel_rfl) (fun _ _ _ h => h) (Or.inl ⟨by rfl, ?_⟩) HSd.out ?_
      rotate_left
      · (intro wq hSw; obtain ⟨q0, q1⟩ := hSw; go_simp; all_goals (first | (with_reducible rfl) | (rw [if_neg (by first | omega | (simp; omega) | (simp only [List.length_append, List.length_cons, List.length_nil]; omega))])))
      simp only [List.getElem_toArray, List.getElem_cons_succ, List.getElem_cons_zero, Act.put, List.setIfInBounds_toArray, List.set_cons_zero, List.set_cons_succ]
      refine wpT_take (i := 2) (v := ?_) rfl (by kernel_rfl) (by kernel_rfl) (by kernel_rfl) (by kernel_rfl) (fun _ _ _ h => h) (Or.inl ⟨by rfl, ?_⟩) HSd.out ?_
      rotate_left
      · (intro wq hSw; obtain ⟨q0, q1⟩ := hSw; go_simp; all_goals (first | (with_reducible rfl) | (rw [if_neg (by first | omega | (simp; omega) | (simp only [List.length_append, List.length_cons, List.length_nil]; omega))])))
      simp only [List.getElem_toArray, List.getElem_cons_succ, List.getElem_cons_zero, Act.put, List.setIfInBounds_toArray, List.set_cons_zero, List.set_cons_succ]
      refine wpT_take (i := 3) (v := ?_) rfl (by kernel_rfl) (by kernel_rfl) (by kernel_rfl) (by kernel_rfl) (fun _ _ _ h => h) (Or.inl ⟨by rfl, ?_⟩) HSd.out ?_
      rotate_left
      · (intro wq hSw; obtain ⟨q0, q1⟩ := hSw; go_simp; all_goals (first | (with_reducible rfl) | (rw [if_neg (by first | omega | (simp; omega) | (simp only [List.length_append, List.length_cons, List.length_nil]; omega))])))
      simp only [List.getElem_toArray, List.getElem_cons_succ, List.getElem_cons_zero, Act.put, List.setIfInBounds_toArray, List.set_cons_zero, List.set_cons_succ]
      refine wpT_take (i := 4) (v := ?_) rfl (by kernel_rfl) (by kernel_rfl) (by kernel_rfl) (by kernel_rfl) (fun _ _ _ h => h) (Or.inl ⟨by rfl, ?_⟩) HSd.out ?_
      rotate_left
      · (intro wq hSw; obtain ⟨q0, q1⟩ := hSw; go_simp; all_goals (first | (with_reducible rfl) | (rw [if_neg (by first | omega | (simp; omega) | (simp only [List.length_append, List.length_cons, List.length_nil]; omega))])))
      simp only [List.getElem_toArray, List.getElem_cons_succ, List.getElem_cons_zero, Act.put, List.setIfInBounds_toArray, List.set_cons_zero, List.set_cons_succ]
      refine wpT_take (i := 5) (v := ?_) rfl (by kernel_rfl) (by kernel_rfl) (by kernel_rfl) (by kernel_rfl) (fun _ _ _ h => h) (Or.inl ⟨by rfl, ?_⟩) HSd.out ?_
      rotate_left
      · (intro wq hSw; obtain ⟨q0, q1⟩ := hSw; go_simp; all_goals (first | (with_reducible rfl) | (rw [if_neg (by first | omega | (simp; omega) | (simp only [List.length_append, List.length_cons, List.length_nil]; omega))])))
      simp only [List.getElem_toArray, List.getElem_cons_succ, List.getElem_cons_zero, Act.put, List.setIfInBounds_toArray, List.set_cons_zero, List.set_cons_succ]
      refine wpT_take (i := 6) (v := ?_) rfl (by kernel_rfl) (by kernel_rfl) (by kernel_rfl) (by kernel_rfl) (fun _ _ _ h => h) (Or.inl ⟨by rfl, ?_⟩) HSd.out ?_
      rotate_left
      · (intro wq hSw; obtain ⟨q0, q1⟩ := hSw; go_simp; all_goals (first | (with_reducible rfl) | (rw [if_neg (by first | omega | (simp; omega) | (simp only [List.length_append, List.length_cons, List.length_nil]; omega))])))
      simp only [List.getElem_toArray, List.getElem_cons_succ, List.getElem_cons_zero, Act.put, List.setIfInBounds_toArray, List.set_cons_zero, List.set_cons_succ]
      refine wpT_take (i := 7) (v := ?_) rfl (by kernel_rfl) (by kernel_rfl) (by kernel_rfl) (by kernel_rfl) (fun _ _ _ h => h) (Or.inl ⟨by rfl, ?_⟩) HSd.out ?_
      rotate_left
      · (intro wq hSw; obtain ⟨q0, q1⟩ := hSw; go_simp; all_goals (first | (with_reducible rfl) | (rw [if_neg (by first | omega | (simp; omega) | (simp only [List.length_append, List.length_cons, List.length_nil]; omega))])))
      simp only [List.getElem_toArray, List.getElem_cons_succ, List.getElem_cons_zero, Act.put, List.setIfInBounds_toArray, List.set_cons_zero, List.set_cons_succ]
      refine wpT_one (i := 8) rfl (by kernel_rfl) fun K hK => ?_
      go_simp
      refine (HJN.out _ (Below.refl wr.heap.size wr).drew).mono ?_; rintro e w1 ⟨rfl, hq⟩
      have hb1 := chain (Below.refl wr.heap.size wr).drew hq
      clear hq
      refine hK.out _ _ (fun _ => HSB.out _ hb1) ?_
      clear hK K
      try simp only [List.getElem_toArray, List.getElem_cons_succ, List.getElem_cons_zero, Act.put, List.setIfInBounds_toArray, List.set_cons_zero, List.set_cons_succ]
      refine wpT_take (i := 9) (v := ?_) rfl (by kernel_rfl) (by kernel_rfl) (by kernel_rfl) (by kernel_rfl) (fun _ _ _ h => h) (Or.inl ⟨by rfl, ?_⟩) (HSB.out _ hb1) ?_
      rotate_left
      · (intro wq hSw; obtain ⟨q0, q1⟩ := hSw; go_simp; all_goals (first | (with_reducible rfl) | (rw [if_neg (by first | omega | (simp; omega) | (simp only [List.length_append, List.length_cons, List.length_nil]; omega))])))
      simp only [List.getElem_toArray, List.getElem_cons_succ, List.getElem_cons_zero, Act.put, List.setIfInBounds_toArray, List.set_cons_zero, List.set_cons_succ]
      refine wpT_take (i := 10) (v := ?_) rfl (by kernel_rfl) (by kernel_rfl) (by kernel_rfl) (by kernel_rfl) (fun _ _ _ h => h) (Or.inl ⟨by rfl, ?_⟩) (HSB.out _ hb1) ?_
      rotate_left
      · (intro wq hSw; obtain ⟨q0, q1⟩ := hSw; go_simp; all_goals (first | (with_reducible rfl) | (rw [if_neg (by first | omega | (simp; omega) | (simp only [List.length_append, List.length_cons, List.length_nil]; omega))])))
      simp only [List.getElem_toArray, List.getElem_cons_succ, List.getElem_cons_zero, Act.put, List.setIfInBounds_toArray, List.set_cons_zero, List.set_cons_succ]
      refine wpT_one (i := 11) rfl (by kernel_rfl) fun K hK => ?_
      go_simp
      refine hK.out _ _ (fun h => absurd h (by decide)) ?_
      clear hK K
      try simp only [List.getElem_toArray, List.getElem_cons_succ, List.getElem_cons_zero, Act.put, List.setIfInBounds_toArray, List.set_cons_zero, List.set_cons_succ]
      refine wpT_done (by kernel_rfl) ?_
      go_wp2_with fail
      go_ret
      exact ⟨by rw [HJ.out]; simp, chain hbW (chain hbr hb1)⟩

theorem gtext_any : ∀ (m : Nat) (t : Gl) (v : Value) (w : World), gparts t ≤ m → gparts t ≤ 60 → IsGl w v t → GGood t → GSays 34 t v w := by
  intro m
  induction m with
  | zero => intro t v w h; cases t; simp only [gparts] at h; omega
  | succ m ih =>
  intro t v w hm h60 hv hg
  obtain ⟨k, f, o, s, n, ls, ks⟩ := t
  have hsh := hg.gsh
  have hkids := hg.kid
  simp only [Gl.kind, Gl.frm, Gl.rcv, Gl.sort, Gl.name, Gl.labels, Gl.kids] at hsh hkids
  simp only [gparts] at hm h60
  have hp : ∀ c ∈ ks, gparts c ≤ m ∧ gparts c ≤ 60 ∧ GGood c := fun c hc => by
    have := gparts_at hc
    exact ⟨by omega, by omega, hkids c hc⟩
  obtain ⟨kl, hkl⟩ : ∃ x, ks.length = x := ⟨_, rfl⟩
  rw [hkl] at hsh
  cases hsh with
  | fin =>
    obtain rfl := List.eq_nil_of_length_eq_zero hkl
    exact gtext_1 m ih v w hv
  | send f o s hf ho hne h1 h3 =>
    obtain ⟨c, rfl⟩ : ∃ c, ks = [c] := by match ks, hkl with | [c], _ => exact ⟨c, rfl⟩
    obtain ⟨a1, a2, a3⟩ := hp c (by simp)
    exact gtext_2 m ih f o s c v w a1 a2 a3 hv (by rw [isRole_len hf]; omega) (by rw [isRole_len ho]; omega) h1 h3
  | pick f o hf ho hne ls h =>
    obtain ⟨h1, h6, h8⟩ := labelsOk_len h
    exact gtext_6 m ih f o ls ks v w hp h6 h1 h8 hkl (by rw [isRole_len hf]; omega) (by rw [isRole_len ho]; omega) hv
  | loop n h =>
    obtain ⟨c, rfl⟩ : ∃ c, ks = [c] := by match ks, hkl with | [c], _ => exact ⟨c, rfl⟩
    obtain ⟨a1, a2, a3⟩ := hp c (by simp)
    exact gtext_8 m ih n c v w a1 a2 a3 hv (isVar_len h).2
  | var n h =>
    obtain rfl := List.eq_nil_of_length_eq_zero hkl
    exact gtext_9 m ih n v w hv
end Go.Proofs.YtgnkncfnkjeinaaDoor
