/-
  Texts of choices between conversations: the program's write, whole.
  The program's Write and Roles of conversations.
-/
import Derived.Test.YtgnkncfnkjeinaaDoorGsX2
import Derived.Test.YtgnkncfnkjeinaaDoorM14
import Derived.Test.YtgnkncfnkjeinaaDoorGsY
import Derived.Test.YtgnkncfnkjeinaaDoorM21
namespace Go.Proofs.YtgnkncfnkjeinaaDoor
open Go.RowKit Go.Proofs
set_option maxRecDepth 100000

theorem join_eq : ∀ (l : List Str), Lib.join l [44] = joined l
  | [] => by simp [Lib.join, joined, List.intercalate]
  | [a] => by simp [Lib.join, joined, List.intercalate]
  | a :: b :: r => by
    have := join_eq (b :: r)
    simp only [Lib.join, List.intercalate, joined] at this ⊢
    rw [← this]
    simp [List.intersperse]

set_option maxHeartbeats 4000000 in
theorem gwrite_6 (m : Nat) (ih : ∀ (t : Gl) (v : Value) (w : World), gparts t ≤ m → gparts t ≤ 60 → IsGl w v t → GGood t → GSorts w → GSays 64 t v w)
    (f o : Str) (ls : List Str) (ks : List Gl) (v : Value) (w : World) (hks : ∀ c ∈ ks, gparts c ≤ m ∧ gparts c ≤ 60 ∧ GGood c) (hl6 : ls.length ≤ 6) (hl1 : 1 ≤ ls.length) (hls : ∀ l ∈ ls, l.length ≤ 8) (hlen : ks.length = ls.length) (hf : f.length ≤ 1) (ho : o.length ≤ 1) (hv : IsGl w v (.mk 6 f o 0 [] ls ks)) (hsw : GSorts w) : GSays 64 (.mk 6 f o 0 [] ls ks) v w := by
  unfold GSays
  obtain ⟨lv, kv, rfl, hs1, hs2⟩ := hv
  simp only [Gl.kind, Gl.frm, Gl.rcv, Gl.sort, Gl.name, Gl.labels, Gl.kids] at hs1 hs2 ⊢
  have HLS := Lib.hid hs1
  obtain ⟨A0, p0, rfl, -, -⟩ := hs1
  have HK := Lib.hid hs2
  obtain ⟨A, cap, rfl, -, -⟩ := hs2
  have HSW := Lib.hid hsw; clear hsw
  obtain ⟨P, hP⟩ : ∃ x, pairs ls (gtxts ks) = x := ⟨_, rfl⟩
  have hPl : P.length = ls.length := by rw [← hP, pairs_length (by rw [gtxts_length, hlen])]
  have hPx : ∀ x ∈ P, x.length ≤ 6009 := by
    rw [← hP]
    refine pairs_le hls fun t ht => ?_
    obtain ⟨c, hc, rfl⟩ := gtxts_mem ht
    have h1 := gtxt_len c (hks c hc).2.2
    have h2 := (hks c hc).2.1
    omega
  have hjl : (joined P).length ≤ 40000 := by
    have h1 := joinK_len hPx (k := P.length) (Nat.le_refl _)
    unfold joinK at h1
    rw [List.take_length] at h1
    omega
  have hans : gtxt (.mk 6 f o 0 [] ls ks) = f ++ [62] ++ o ++ [123] ++ joined P ++ [125] := by
    rw [← hP]
    simp [gtxt, gtxtOf]
  rw [hans]
  clear hans
  have HPX := Lib.hid hPx; have HPP := Lib.hid hP; have HKS := Lib.hid hks; have HLE := Lib.hid hls
  obtain ⟨L, hL⟩ : ∃ x, ls.length = x := ⟨_, rfl⟩
  have HL1 := Lib.hid hL; have HL2 := Lib.hid (hlen.trans hL); have HL3 := Lib.hid (hPl.trans hL)
  rw [hlen] at HK ⊢
  rw [hL] at HK HLS hl6 hl1 ⊢
  clear hL hlen hPl hPx hP hks hls
  go_enter Tryd.func64, Tryd.ntmps64
  go_wp2_with fail
  obtain ⟨W, hW⟩ : ∃ W, w.alloc (.cells #[.int .i64 6, .string ⟨f.toArray⟩, .string ⟨o.toArray⟩, .int .i64 0, .string ⟨#[]⟩, .slice A0 L p0, .slice A L cap] 52) = W := ⟨_, rfl⟩
  have hbW : Below w.heap.size w W := by subst hW; go_grown
  have hWs : W.heap.size = w.heap.size + 1 := by subst hW; simp
  have X1 : W.cell? ⟨w.heap.size, 1, none⟩ = some (.string ⟨f.toArray⟩) := by subst hW; simp [go_sem]
  have X2 : W.cell? ⟨w.heap.size, 2, none⟩ = some (.string ⟨o.toArray⟩) := by subst hW; simp [go_sem]
  have X5 : W.cell? ⟨w.heap.size, 5, none⟩ = some (.slice A0 L p0) := by subst hW; simp [go_sem]
  have X6 : W.cell? ⟨w.heap.size, 6, none⟩ = some (.slice A L cap) := by subst hW; simp [go_sem]
  try rw [hW]
  clear hW
  obtain ⟨N, hN⟩ : ∃ x, W.heap.size = x := ⟨_, rfl⟩
  go_loopw [3, 35] (fun lv i wr => ∃ k : Nat, k ≤ L ∧ i = .int .i64 k ∧ wr.ownsRow N 9 1 lv k ((P.take k).map fun s => .string ⟨s.toArray⟩) ∧ Below N W wr) (fun _ i _ => L - (intOf i).toNat)
  case atStart => exact ⟨0, by omega, rfl, World.ownsRow_nil _ _ _ _, Below.refl _ _⟩
  case round =>
    obtain ⟨k, hk, rfl, hown, hbN⟩ := hrel
    have hbr : Below W.heap.size W wr := by rw [hN]; exact hbN
    have hNr : N ≤ wr.heap.size := by rw [← hN]; exact hbr.size
    have x1 := cell_keep X1 hbr
    have x2 := cell_keep X2 hbr
    have x5 := cell_keep X5 hbr
    have x6 := cell_keep X6 hbr
    obtain ⟨Av, capv, rfl⟩ := own_form hown
    by_cases hlt : k < L
    · obtain ⟨c, hc⟩ : ∃ x, ks[k]? = some x := ⟨_, List.getElem?_eq_getElem (by rw [HL2.out]; exact hlt)⟩
      obtain ⟨l, hl⟩ : ∃ x, ls[k]? = some x := ⟨_, List.getElem?_eq_getElem (by rw [HL1.out]; exact hlt)⟩
      have HC := Lib.hid hc; have HLk := Lib.hid hl
      obtain ⟨-, -, b, off, A1, n1, p1, A2, n2, p2, rfl, -, c0, c1, c2, c3, c4, c5, c6, hl', hk'⟩ := gkid_at (HK.out.below hbW) hc
      obtain ⟨lA, lp, el, hlc, hlr⟩ := HLS.out.below hbW
      obtain ⟨lb, loff, rfl, -, hlrow⟩ := hlr (by rw [HL1.out]; omega)
      injection el with el1 el2 el3
      subst el1 el3
      clear el2
      have clab := hlrow k l hl
      have HL' := Lib.hid (hl'.below hbr); have HK' := Lib.hid (hk'.below hbr); clear hl' hk' hc hl hlr hlrow
      have hcm := HKS.out c (mem_of_at HC.out)
      have hll := HLE.out l (mem_of_at HLk.out)
      have htl : (gtxt c).length ≤ 6000 := by have h1 := gtxt_len c hcm.2.2; have h2 := hcm.2.1; omega
      have hpair : P[k]? = some (l ++ [58] ++ gtxt c) := by rw [← HPP.out]; exact pairs_at HLk.out (gtxts_at HC.out)
      obtain ⟨T, hT⟩ : ∃ y, gtxt c = y := ⟨_, rfl⟩
      have HT := Lib.hid hT
      rw [hT] at htl hpair
      have HPR := Lib.hid hpair
      clear hT hpair
      have hlbN : lb < N := by rw [← hN]; exact cell_lt clab
      have hbN' : b < N := by rw [← hN]; exact cell_lt c0
      have hBN : w.heap.size < N := by omega
      replace clab := cell_keep clab hbr
      replace c0 := cell_keep c0 hbr
      replace c1 := cell_keep c1 hbr
      replace c2 := cell_keep c2 hbr
      replace c3 := cell_keep c3 hbr
      replace c4 := cell_keep c4 hbr
      replace c5 := cell_keep c5 hbr
      replace c6 := cell_keep c6 hbr
      obtain ⟨wa, hwa⟩ : ∃ y, wr.alloc (.cells #[.int .i64 c.kind, .string ⟨c.frm.toArray⟩, .string ⟨c.rcv.toArray⟩, .int .i64 c.sort, .string ⟨c.name.toArray⟩, .slice A1 n1 p1, .slice A2 n2 p2] 52) = y := ⟨_, rfl⟩
      have hba : Below wr.heap.size wr wa := by subst hwa; exact (Below.refl _ _).alloc (Nat.le_refl _) _
      have hsa : wa.heap.size = wr.heap.size + 1 := by subst hwa; simp
      have hkb : GBox wa wr.heap.size c (.slice A1 n1 p1) (.slice A2 n2 p2) := by subst hwa; exact new_gval wr c (.slice A1 n1 p1) (.slice A2 n2 p2) 52
      obtain ⟨k0, k1, k2, k3, k4, k5, k6, k7, k8⟩ := id hkb
      have hS : ∀ w' : World, Same (fun b => b < N ∨ b = wr.heap.size) wa w' → (fun w' : World => w'.cell? ⟨w.heap.size, 5, none⟩ = some (.slice (some ⟨lb, loff, none⟩) L p0) ∧ w'.cell? ⟨lb, loff + k, none⟩ = some (.string ⟨l.toArray⟩) ∧ w'.cell? ⟨wr.heap.size, 0, none⟩ = some (.int .i64 c.kind) ∧ w'.cell? ⟨wr.heap.size, 1, none⟩ = some (.string ⟨c.frm.toArray⟩) ∧ w'.cell? ⟨wr.heap.size, 2, none⟩ = some (.string ⟨c.rcv.toArray⟩) ∧ w'.cell? ⟨wr.heap.size, 3, none⟩ = some (.int .i64 c.sort) ∧ w'.cell? ⟨wr.heap.size, 4, none⟩ = some (.string ⟨c.name.toArray⟩) ∧ w'.cell? ⟨wr.heap.size, 5, none⟩ = some (.slice A1 n1 p1) ∧ w'.cell? ⟨wr.heap.size, 6, none⟩ = some (.slice A2 n2 p2)) w' := fun w' h => ⟨h.cell (by first | (left; omega) | (right; rfl)) (cell_keep x5 hba), h.cell (by first | (left; omega) | (right; rfl)) (cell_keep clab hba), h.cell (by first | (left; omega) | (right; rfl)) k0, h.cell (by first | (left; omega) | (right; rfl)) k1, h.cell (by first | (left; omega) | (right; rfl)) k2, h.cell (by first | (left; omega) | (right; rfl)) k3, h.cell (by first | (left; omega) | (right; rfl)) k4, h.cell (by first | (left; omega) | (right; rfl)) k5, h.cell (by first | (left; omega) | (right; rfl)) k6⟩
      have HSd := Lib.hid (hS wa.drew (fun _ _ _ => rfl))
      have HSB := Lib.hid hS; clear hS
      have hne : ∀ q, q < N ∨ q = wr.heap.size → some q ≠ (Value.slice Av k capv).ownBlock := fun q hq e => by
        obtain ⟨h1, h2⟩ := hown.lt q e.symm
        omega
      go_wp2_with fail
      try rw [hwa]
      clear hwa
      refine wp_region_T 12 (fun w' : World => w'.cell? ⟨w.heap.size, 5, none⟩ = some (.slice (some ⟨lb, loff, none⟩) L p0) ∧ w'.cell? ⟨lb, loff + k, none⟩ = some (.string ⟨l.toArray⟩) ∧ w'.cell? ⟨wr.heap.size, 0, none⟩ = some (.int .i64 c.kind) ∧ w'.cell? ⟨wr.heap.size, 1, none⟩ = some (.string ⟨c.frm.toArray⟩) ∧ w'.cell? ⟨wr.heap.size, 2, none⟩ = some (.string ⟨c.rcv.toArray⟩) ∧ w'.cell? ⟨wr.heap.size, 3, none⟩ = some (.int .i64 c.sort) ∧ w'.cell? ⟨wr.heap.size, 4, none⟩ = some (.string ⟨c.name.toArray⟩) ∧ w'.cell? ⟨wr.heap.size, 5, none⟩ = some (.slice A1 n1 p1) ∧ w'.cell? ⟨wr.heap.size, 6, none⟩ = some (.slice A2 n2 p2)) (by kernel_rfl) ?_
      refine wpT_take (i := 0) (v := ?_) rfl (by kernel_rfl) (by kernel_rfl) (by kernel_rfl) (by kernel_rfl) (fun _ _ _ h => h) (Or.inl ⟨by rfl, ?_⟩) HSd.out ?_
      rotate_left
      · (intro wq hSw; obtain ⟨q0, q1, q2, q3, q4, q5, q6, q7, q8⟩ := hSw; go_simp; all_goals (first | (with_reducible rfl) | (rw [if_neg (by first | omega | (simp; omega) | (simp only [List.length_append, List.length_cons, List.length_nil]; omega))])))
      simp only [List.getElem_toArray, List.getElem_cons_succ, List.getElem_cons_zero, Act.put, List.setIfInBounds_toArray, List.set_cons_zero, List.set_cons_succ]
      refine wpT_take (i := 1) (v := ?_) rfl (by kernel_rfl) (by kernel_rfl) (by kernel_rfl) (by kernel_rfl) (fun _ _ _ h => h) (Or.inl ⟨by rfl, ?_⟩) HSd.out ?_
      rotate_left
      · (intro wq hSw; obtain ⟨q0, q1, q2, q3, q4, q5, q6, q7, q8⟩ := hSw; go_simp; all_goals (first | (with_reducible rfl) | (rw [if_neg (by first | omega | (simp; omega) | (simp only [List.length_append, List.length_cons, List.length_nil]; omega))])))
      simp only [List.getElem_toArray, List.getElem_cons_succ, List.getElem_cons_zero, Act.put, List.setIfInBounds_toArray, List.set_cons_zero, List.set_cons_succ]
      refine wpT_take (i := 2) (v := ?_) rfl (by kernel_rfl) (by kernel_rfl) (by kernel_rfl) (by kernel_rfl) (fun _ _ _ h => h) (Or.inl ⟨by rfl, ?_⟩) HSd.out ?_
      rotate_left
      · (intro wq hSw; obtain ⟨q0, q1, q2, q3, q4, q5, q6, q7, q8⟩ := hSw; go_simp; all_goals (first | (with_reducible rfl) | (rw [if_neg (by first | omega | (simp; omega) | (simp only [List.length_append, List.length_cons, List.length_nil]; omega))])))
      simp only [List.getElem_toArray, List.getElem_cons_succ, List.getElem_cons_zero, Act.put, List.setIfInBounds_toArray, List.set_cons_zero, List.set_cons_succ]
      refine wpT_take (i := 3) (v := ?_) rfl (by kernel_rfl) (by kernel_rfl) (by kernel_rfl) (by kernel_rfl) (fun _ _ _ h => h) (Or.inl ⟨by rfl, ?_⟩) HSd.out ?_
      rotate_left
      · (intro wq hSw; obtain ⟨q0, q1, q2, q3, q4, q5, q6, q7, q8⟩ := hSw; go_simp; all_goals (first | (with_reducible rfl) | (rw [if_neg (by first | omega | (simp; omega) | (simp only [List.length_append, List.length_cons, List.length_nil]; omega))])))
      simp only [List.getElem_toArray, List.getElem_cons_succ, List.getElem_cons_zero, Act.put, List.setIfInBounds_toArray, List.set_cons_zero, List.set_cons_succ]
      refine wpT_take (i := 4) (v := ?_) rfl (by kernel_rfl) (by kernel_rfl) (by kernel_rfl) (by kernel_rfl) (fun _ _ _ h => h) (Or.inl ⟨by rfl, ?_⟩) HSd.out ?_
      rotate_left
      · (intro wq hSw; obtain ⟨q0, q1, q2, q3, q4, q5, q6, q7, q8⟩ := hSw; go_simp; all_goals (first | (with_reducible rfl) | (rw [if_neg (by first | omega | (simp; omega) | (simp only [List.length_append, List.length_cons, List.length_nil]; omega))])))
      simp only [List.getElem_toArray, List.getElem_cons_succ, List.getElem_cons_zero, Act.put, List.setIfInBounds_toArray, List.set_cons_zero, List.set_cons_succ]
      refine wpT_take (i := 5) (v := ?_) rfl (by kernel_rfl) (by kernel_rfl) (by kernel_rfl) (by kernel_rfl) (fun _ _ _ h => h) (Or.inl ⟨by rfl, ?_⟩) HSd.out ?_
      rotate_left
      · (intro wq hSw; obtain ⟨q0, q1, q2, q3, q4, q5, q6, q7, q8⟩ := hSw; go_simp; all_goals (first | (with_reducible rfl) | (rw [if_neg (by first | omega | (simp; omega) | (simp only [List.length_append, List.length_cons, List.length_nil]; omega))])))
      simp only [List.getElem_toArray, List.getElem_cons_succ, List.getElem_cons_zero, Act.put, List.setIfInBounds_toArray, List.set_cons_zero, List.set_cons_succ]
      refine wpT_take (i := 6) (v := ?_) rfl (by kernel_rfl) (by kernel_rfl) (by kernel_rfl) (by kernel_rfl) (fun _ _ _ h => h) (Or.inl ⟨by rfl, ?_⟩) HSd.out ?_
      rotate_left
      · (intro wq hSw; obtain ⟨q0, q1, q2, q3, q4, q5, q6, q7, q8⟩ := hSw; go_simp; all_goals (first | (with_reducible rfl) | (rw [if_neg (by first | omega | (simp; omega) | (simp only [List.length_append, List.length_cons, List.length_nil]; omega))])))
      simp only [List.getElem_toArray, List.getElem_cons_succ, List.getElem_cons_zero, Act.put, List.setIfInBounds_toArray, List.set_cons_zero, List.set_cons_succ]
      refine wpT_take (i := 7) (v := ?_) rfl (by kernel_rfl) (by kernel_rfl) (by kernel_rfl) (by kernel_rfl) (fun _ _ _ h => h) (Or.inl ⟨by rfl, ?_⟩) HSd.out ?_
      rotate_left
      · (intro wq hSw; obtain ⟨q0, q1, q2, q3, q4, q5, q6, q7, q8⟩ := hSw; go_simp; all_goals (first | (with_reducible rfl) | (rw [if_neg (by first | omega | (simp; omega) | (simp only [List.length_append, List.length_cons, List.length_nil]; omega))])))
      simp only [List.getElem_toArray, List.getElem_cons_succ, List.getElem_cons_zero, Act.put, List.setIfInBounds_toArray, List.set_cons_zero, List.set_cons_succ]
      refine wpT_one (i := 8) rfl (by kernel_rfl) fun K hK => ?_
      go_simp
      have hcall := ih c (.agg #[.int .i64 c.kind, .string ⟨c.frm.toArray⟩, .string ⟨c.rcv.toArray⟩, .int .i64 c.sort, .string ⟨c.name.toArray⟩, .slice A1 n1 p1, .slice A2 n2 p2]) wa.drew hcm.1 hcm.2.1 (glV_of ((HL'.out.below hba).below (Below.refl wa.heap.size wa).drew) ((HK'.out.below hba).below (Below.refl wa.heap.size wa).drew)) hcm.2.2 ((((HSW.out.keep hbW).keep hbr).keep hba).keep (Below.refl wa.heap.size wa).drew)
      unfold GSays at hcall
      refine hcall.mono ?_; clear hcall; rw [HT.out]; rintro e w1 ⟨rfl, hq⟩
      have hba1 : Below wa.heap.size wa w1 := chain (Below.refl wa.heap.size wa).drew hq
      have hb1 : Below wr.heap.size wr w1 := chain hba hba1
      have hs1 := hb1.size
      have hs2 := hba1.size
      clear hq
      refine hK.out _ _ (fun _ => HSB.out _ (Same.below hba1)) ?_
      clear hK K
      try simp only [List.getElem_toArray, List.getElem_cons_succ, List.getElem_cons_zero, Act.put, List.setIfInBounds_toArray, List.set_cons_zero, List.set_cons_succ]
      refine wpT_take (i := 9) (v := ?_) rfl (by kernel_rfl) (by kernel_rfl) (by kernel_rfl) (by kernel_rfl) (fun _ _ _ h => h) (Or.inl ⟨by rfl, ?_⟩) (HSB.out _ (Same.below hba1)) ?_
      rotate_left
      · (intro wq hSw; obtain ⟨q0, q1, q2, q3, q4, q5, q6, q7, q8⟩ := hSw; go_simp; all_goals (first | (with_reducible rfl) | (rw [if_neg (by first | omega | (simp; omega) | (simp only [List.length_append, List.length_cons, List.length_nil]; omega))])))
      simp only [List.getElem_toArray, List.getElem_cons_succ, List.getElem_cons_zero, Act.put, List.setIfInBounds_toArray, List.set_cons_zero, List.set_cons_succ]
      refine wpT_one (i := 10) rfl (by kernel_rfl) fun K hK => ?_
      go_simp
      have hsA := Below.trans hba1 ((Below.refl _ w1).alloc hs2 (.cells #[.string ⟨(l ++ 58 :: T).toArray⟩] 9))
      have hbA : Below N wr (w1.alloc (.cells #[.string ⟨(l ++ 58 :: T).toArray⟩] 9)) := (hb1.mono hNr).alloc (by omega) _
      refine hK.out _ _ (fun _ => HSB.out _ (Same.below hsA)) ?_
      clear hK K
      try simp only [List.getElem_toArray, List.getElem_cons_succ, List.getElem_cons_zero, Act.put, List.setIfInBounds_toArray, List.set_cons_zero, List.set_cons_succ]
      refine wpT_one (i := 11) rfl (by kernel_rfl) fun K hK => ?_
      refine step_app rt_strs rfl (.tmp 40) (.tmp 50) rfl N (.slice Av k capv) k _ rfl ((own_keep hown hb1 (Nat.le_refl _)).alloc _) ⟨w1.heap.size, 0, none⟩ 1 1 [.string ⟨(l ++ 58 :: T).toArray⟩] rfl rfl (cell_one_new _ _ _) (by simp [Value.oneCell']) (by unfold maxLen; omega) (by omega) (by rw [World.size_alloc]; omega) (fun v' w3 n1' n2' n3' n4' => ?_)
      obtain ⟨Aw, capw, rfl⟩ := own_form n1'
      have hb3 := hbA.trans n4'
      refine hK.out _ _ (fun _ => HSB.out _ (Same.trans (Same.below hsA) hsA.size (Same.grown n2' hne))) ?_
      clear hK K
      try simp only [List.getElem_toArray, List.getElem_cons_succ, List.getElem_cons_zero, Act.put, List.setIfInBounds_toArray, List.set_cons_zero, List.set_cons_succ]
      refine wpT_one (i := 12) rfl (by kernel_rfl) fun K hK => ?_
      go_simp
      refine hK.out _ _ (fun h => absurd h (by decide)) ?_
      clear hK K
      try simp only [List.getElem_toArray, List.getElem_cons_succ, List.getElem_cons_zero, Act.put, List.setIfInBounds_toArray, List.set_cons_zero, List.set_cons_succ]
      refine wpT_done (by kernel_rfl) ?_
      have hown3 : w3.ownsRow N 9 1 (.slice Aw (k + 1) capw) (k + 1) ((P.take (k + 1)).map fun s => .string ⟨s.toArray⟩) := by
        rw [List.take_add_one, HPR.out]
        simpa using n1'
      have hbN3 := hbN.trans hb3
      clear HSB HSd n1' n2' n3' n4' hb3
      go_wp2_with fail
      go_roundw
      case rel => exact ⟨k + 1, by omega, by go_num, hown3, hbN3⟩
      case measure => simp [intOf]; omega
    · have hkL : k = L := by omega
      subst hkL
      clear hlt
      have htk : P.take k = P := List.take_of_length_le (by rw [HL3.out]; exact Nat.le_refl _)
      rw [htk] at hown
      have hcs := fun g => hown.cells (g := g)
      rcases id hown.2 with ⟨e, h0⟩ | ⟨g, cap', cur, e, hg, _, hn, _⟩
      · omega
      injection e with e1 e2 e3
      subst e1 e3
      have hcells : ∀ (w' : World), Below wr.heap.size wr w' → ∀ (j : Nat) x, (P.map fun s => (⟨s.toArray⟩ : ByteArray))[j]? = some x → w'.cell? ⟨g, 0 + j, none⟩ = some (.string x) := fun w' hb' j x hx => by
        rw [List.getElem?_map] at hx
        obtain ⟨s, hs, rfl⟩ := Option.map_eq_some_iff.1 hx
        have := hcs g rfl j (.string ⟨s.toArray⟩) (by rw [List.getElem?_map, hs]; rfl)
        rw [Go.WideShapes.add_plain] at this
        exact cell_keep this hb'
      have hgl : g < wr.heap.size := (hown.lt g rfl).2
      have hmm : (P.map fun s => (⟨s.toArray⟩ : ByteArray)).map (·.data.toList) = P := by rw [List.map_map]; exact (List.map_congr_left (fun s _ => rfl)).trans (List.map_id P)
      have hjoin := fun (w' : World) (hb' : Below wr.heap.size wr w') => Tryd.strings_Join g 0 capv (P.map fun s => ⟨s.toArray⟩) ⟨#[44]⟩ w' (hcells w' hb') (Nat.lt_of_lt_of_le hgl hb'.size) (by rw [List.length_map, HL3.out]; omega) (by rw [List.length_map, HL3.out]; exact hn) (by rw [hmm]; show (Lib.join P [44]).length ≤ _; rw [join_eq]; omega)
      rw [hmm, List.length_map, HL3.out] at hjoin
      have hj2 : Lib.join P (⟨#[44]⟩ : ByteArray).data.toList = joined P := join_eq P
      rw [hj2] at hjoin
      clear hcells hcs hown
      obtain ⟨J, hJ⟩ : ∃ x, joined P = x := ⟨_, rfl⟩
      rw [hJ] at hjoin hjl
      have HJ := Lib.hid hJ
      have HJN := Lib.hid hjoin
      clear hjoin hJ
      go_wp2_with fail
      have hS : ∀ w' : World, Below wr.heap.size wr w' → (fun w' : World => w'.cell? ⟨w.heap.size, 1, none⟩ = some (.string ⟨f.toArray⟩) ∧ w'.cell? ⟨w.heap.size, 2, none⟩ = some (.string ⟨o.toArray⟩)) w' := fun w' h => ⟨cell_keep x1 h, cell_keep x2 h⟩
      have HSd := Lib.hid (hS wr.drew (Below.refl _ _).drew)
      have HSB := Lib.hid hS; clear hS
      refine wp_region_T 11 (fun w' : World => w'.cell? ⟨w.heap.size, 1, none⟩ = some (.string ⟨f.toArray⟩) ∧ w'.cell? ⟨w.heap.size, 2, none⟩ = some (.string ⟨o.toArray⟩)) (by kernel_rfl) ?_
      refine wpT_take (i := 0) (v := ?_) rfl (by kernel_rfl) (by kernel_rfl) (by kernel_rfl) (by kernel_rfl) (fun _ _ _ h => h) (Or.inl ⟨by rfl, ?_⟩) HSd.out ?_
      rotate_left
      · (intro wq hSw; obtain ⟨q0, q1⟩ := hSw; go_simp; all_goals (first | (with_reducible rfl) | (rw [if_neg (by first | omega | (simp; omega) | (simp only [List.length_append, List.length_cons, List.length_nil]; omega))])))
      simp only [List.getElem_toArray, List.getElem_cons_succ, List.getElem_cons_zero, Act.put, List.setIfInBounds_toArray, List.set_cons_zero, List.set_cons_succ]
      refine wpT_take (i := 1) (v := ?_) rfl (by kernel_rfl) (by kernel_rfl) (by kernel_rfl) (by kernel_rfl) (fun _ _ _ h => h) (Or.inl ⟨by rfl, ?_⟩) HSd.out ?_
      rotate_left
      · (intro wq hSw; obtain ⟨q0, q1⟩ := hSw; go_simp; all_goals (first | (with_reducible rfl) | (rw [if_neg (by first | omega | (simp; omega) | (simp only [List.length_append, List.length_cons, List.length_nil]; omega))])))
      simp only [List.getElem_toArray, List.getElem_cons_succ, List.getElem_cons_zero, Act.put, List.setIfInBounds_toArray, List.set_cons_zero, List.set_cons_succ]
      refine wpT_take (i := 2) (v := ?_) rfl (by kernel_rfl) (by kernel_rfl) (by kernel_rfl) (by kernel_rfl) (fun _ _ _ h => h) (Or.inl ⟨by rfl, ?_⟩) HSd.out ?_
      rotate_left
      · (intro wq hSw; obtain ⟨q0, q1⟩ := hSw; go_simp; all_goals (first | (with_reducible rfl) | (rw [if_neg (by first | omega | (simp; omega) | (simp only [List.length_append, List.length_cons, List.length_nil]; omega))])))
      simp only [List.getElem_toArray, List.getElem_cons_succ, List.getElem_cons_zero, Act.put, List.setIfInBounds_toArray, List.set_cons_zero, List.set_cons_succ]
      refine wpT_take (i := 3) (v := ?_) rfl (by kernel_rfl) (by kernel_rfl) (by kernel_rfl) (by kernel_rfl) (fun _ _ _ h => h) (Or.inl ⟨by rfl, ?_⟩) HSd.out ?_
      rotate_left
      · (intro wq hSw; obtain ⟨q0, q1⟩ := hSw; go_simp; all_goals (first | (with_reducible rfl) | (rw [if_neg (by first | omega | (simp; omega) | (simp only [List.length_append, List.length_cons, List.length_nil]; omega))])))
      simp only [List.getElem_toArray, List.getElem_cons_succ, List.getElem_cons_zero, Act.put, List.setIfInBounds_toArray, List.set_cons_zero, List.set_cons_succ]
      refine wpT_take (i := 4) (v := ?_) rfl (by kernel_rfl) (by kernel_rfl) (by kernel_rfl) (by kernel_rfl) (fun _ _ _ h => h) (Or.inl ⟨by rfl, ?_⟩) HSd.out ?_
      rotate_left
      · (intro wq hSw; obtain ⟨q0, q1⟩ := hSw; go_simp; all_goals (first | (with_reducible rfl) | (rw [if_neg (by first | omega | (simp; omega) | (simp only [List.length_append, List.length_cons, List.length_nil]; omega))])))
      simp only [List.getElem_toArray, List.getElem_cons_succ, List.getElem_cons_zero, Act.put, List.setIfInBounds_toArray, List.set_cons_zero, List.set_cons_succ]
      refine wpT_take (i := 5) (v := ?_) rfl (by kernel_rfl) (by kernel_rfl) (by kernel_rfl) (by kernel_rfl) (fun _ _ _ h => h) (Or.inl ⟨by rfl, ?_⟩) HSd.out ?_
      rotate_left
      · (intro wq hSw; obtain ⟨q0, q1⟩ := hSw; go_simp; all_goals (first | (with_reducible rfl) | (rw [if_neg (by first | omega | (simp; omega) | (simp only [List.length_append, List.length_cons, List.length_nil]; omega))])))
      simp only [List.getElem_toArray, List.getElem_cons_succ, List.getElem_cons_zero, Act.put, List.setIfInBounds_toArray, List.set_cons_zero, List.set_cons_succ]
      refine wpT_take (i := 6) (v := ?_) rfl (by kernel_rfl) (by kernel_rfl) (by kernel_rfl) (by kernel_rfl) (fun _ _ _ h => h) (Or.inl ⟨by rfl, ?_⟩) HSd.out ?_
      rotate_left
      · (intro wq hSw; obtain ⟨q0, q1⟩ := hSw; go_simp; all_goals (first | (with_reducible rfl) | (rw [if_neg (by first | omega | (simp; omega) | (simp only [List.length_append, List.length_cons, List.length_nil]; omega))])))
      simp only [List.getElem_toArray, List.getElem_cons_succ, List.getElem_cons_zero, Act.put, List.setIfInBounds_toArray, List.set_cons_zero, List.set_cons_succ]
      refine wpT_take (i := 7) (v := ?_) rfl (by kernel_rfl) (by kernel_rfl) (by kernel_rfl) (by kernel_rfl) (fun _ _ _ h => h) (Or.inl ⟨by rfl, ?_⟩) HSd.out ?_
      rotate_left
      · (intro wq hSw; obtain ⟨q0, q1⟩ := hSw; go_simp; all_goals (first | (with_reducible rfl) | (rw [if_neg (by first | omega | (simp; omega) | (simp only [List.length_append, List.length_cons, List.length_nil]; omega))])))
      simp only [List.getElem_toArray, List.getElem_cons_succ, List.getElem_cons_zero, Act.put, List.setIfInBounds_toArray, List.set_cons_zero, List.set_cons_succ]
      refine wpT_one (i := 8) rfl (by kernel_rfl) fun K hK => ?_
      go_simp
      refine (HJN.out _ (Below.refl wr.heap.size wr).drew).mono ?_; rintro e w1 ⟨rfl, hq⟩
      have hb1 := chain (Below.refl wr.heap.size wr).drew hq
      clear hq
      refine hK.out _ _ (fun _ => HSB.out _ hb1) ?_
      clear hK K
      try simp only [List.getElem_toArray, List.getElem_cons_succ, List.getElem_cons_zero, Act.put, List.setIfInBounds_toArray, List.set_cons_zero, List.set_cons_succ]
      refine wpT_take (i := 9) (v := ?_) rfl (by kernel_rfl) (by kernel_rfl) (by kernel_rfl) (by kernel_rfl) (fun _ _ _ h => h) (Or.inl ⟨by rfl, ?_⟩) (HSB.out _ hb1) ?_
      rotate_left
      · (intro wq hSw; obtain ⟨q0, q1⟩ := hSw; go_simp; all_goals (first | (with_reducible rfl) | (rw [if_neg (by first | omega | (simp; omega) | (simp only [List.length_append, List.length_cons, List.length_nil]; omega))])))
      simp only [List.getElem_toArray, List.getElem_cons_succ, List.getElem_cons_zero, Act.put, List.setIfInBounds_toArray, List.set_cons_zero, List.set_cons_succ]
      refine wpT_take (i := 10) (v := ?_) rfl (by kernel_rfl) (by kernel_rfl) (by kernel_rfl) (by kernel_rfl) (fun _ _ _ h => h) (Or.inl ⟨by rfl, ?_⟩) (HSB.out _ hb1) ?_
      rotate_left
      · (intro wq hSw; obtain ⟨q0, q1⟩ := hSw; go_simp; all_goals (first | (with_reducible rfl) | (rw [if_neg (by first | omega | (simp; omega) | (simp only [List.length_append, List.length_cons, List.length_nil]; omega))])))
      simp only [List.getElem_toArray, List.getElem_cons_succ, List.getElem_cons_zero, Act.put, List.setIfInBounds_toArray, List.set_cons_zero, List.set_cons_succ]
      refine wpT_one (i := 11) rfl (by kernel_rfl) fun K hK => ?_
      go_simp
      refine hK.out _ _ (fun h => absurd h (by decide)) ?_
      clear hK K
      try simp only [List.getElem_toArray, List.getElem_cons_succ, List.getElem_cons_zero, Act.put, List.setIfInBounds_toArray, List.set_cons_zero, List.set_cons_succ]
      refine wpT_done (by kernel_rfl) ?_
      go_wp2_with fail
      go_ret
      exact ⟨by rw [HJ.out]; simp, chain hbW (chain hbr hb1)⟩

theorem gwrite_any : ∀ (m : Nat) (t : Gl) (v : Value) (w : World), gparts t ≤ m → gparts t ≤ 60 → IsGl w v t → GGood t → GSorts w → GSays 64 t v w := by
  intro m
  induction m with
  | zero => intro t v w h; cases t; simp only [gparts] at h; omega
  | succ m ih =>
  intro t v w hm h60 hv hg hsw
  obtain ⟨k, f, o, s, n, ls, ks⟩ := t
  have hsh := hg.gsh
  have hkids := hg.kid
  simp only [Gl.kind, Gl.frm, Gl.rcv, Gl.sort, Gl.name, Gl.labels, Gl.kids] at hsh hkids
  simp only [gparts] at hm h60
  have hp : ∀ c ∈ ks, gparts c ≤ m ∧ gparts c ≤ 60 ∧ GGood c := fun c hc => by
    have := gparts_at hc
    exact ⟨by omega, by omega, hkids c hc⟩
  obtain ⟨kl, hkl⟩ : ∃ x, ks.length = x := ⟨_, rfl⟩
  rw [hkl] at hsh
  cases hsh with
  | fin =>
    obtain rfl := List.eq_nil_of_length_eq_zero hkl
    exact gwrite_1 m ih v w hv hsw
  | send f o s hf ho hne h1 h3 =>
    obtain ⟨c, rfl⟩ : ∃ c, ks = [c] := by match ks, hkl with | [c], _ => exact ⟨c, rfl⟩
    obtain ⟨a1, a2, a3⟩ := hp c (by simp)
    obtain ⟨s, rfl⟩ : ∃ j : Nat, s = j := ⟨s.toNat, by omega⟩
    exact gwrite_2 m ih f o s c v w a1 a2 a3 hv (by rw [isRole_len hf]; omega) (by rw [isRole_len ho]; omega) (by omega) (by omega) hsw
  | pick f o hf ho hne ls h =>
    obtain ⟨h1, h6, h8⟩ := labelsOk_len h
    exact gwrite_6 m ih f o ls ks v w hp h6 h1 h8 hkl (by rw [isRole_len hf]; omega) (by rw [isRole_len ho]; omega) hv hsw
  | loop n h =>
    obtain ⟨c, rfl⟩ : ∃ c, ks = [c] := by match ks, hkl with | [c], _ => exact ⟨c, rfl⟩
    obtain ⟨a1, a2, a3⟩ := hp c (by simp)
    exact gwrite_8 m ih n c v w a1 a2 a3 hv (isVar_len h).2 hsw
  | var n h =>
    obtain rfl := List.eq_nil_of_length_eq_zero hkl
    exact gwrite_9 m ih n v w hv hsw
end Go.Proofs.YtgnkncfnkjeinaaDoor
namespace Go.Proofs.YtgnkncfnkjeinaaDoor
open Go.RowKit Go.Proofs Go.Sort
set_option maxRecDepth 100000

theorem gWrite_bad (t : Gl) (v : Value) (w : World) (hv : IsGl w v t) (hf : GFit t) (E : Int) (hE : glErr t = E) (h0 : E ≠ 0) :
    Calls Tryd.prog 31 #[v] w fun e w' => e = .returned (.tuple #[.string ⟨#[]⟩, .int .i64 E]) ∧ Below w.heap.size w w' := by
  have HZ := Lib.hid hv
  obtain ⟨lv, kv, rfl, h1, h2⟩ := hv
  obtain ⟨A0, p0, rfl, -, -⟩ := h1
  obtain ⟨A, cap, rfl, -, -⟩ := h2
  have HE := Lib.hid hE
  have hb : (E != 0) = true := by rw [bne_iff_ne]; exact h0
  clear h0 hE
  go_enter Tryd.func31, Tryd.ntmps31
  go_wp2_with fail
  refine (gCheck_any t _ _ (IsGl.keep HZ.out (by go_grown)) hf).mono ?_; rw [HE.out]; rintro e w1 ⟨rfl, hb1⟩
  go_wp2_with fail
  exact bodyPost_ret (v := .tuple #[.string ⟨#[]⟩, .int .i64 E]) (by simp [results, Tryd.results31, go_sem]) rfl ⟨rfl, by first | exact hb1 | exact chain (by go_grown) hb1⟩

set_option maxHeartbeats 4000000 in
theorem gWrite_ok (t : Gl) (v : Value) (w : World) (hv : IsGl w v t) (hf : GFit t) (hE : glErr t = 0) (hsw : GSorts w) :
    Calls Tryd.prog 31 #[v] w fun e w' => e = .returned (.tuple #[.string ⟨(gtxt t).toArray⟩, .int .i64 0]) ∧ Below w.heap.size w w' := by
  have HZ := Lib.hid hv
  obtain ⟨lv, kv, rfl, h1, h2⟩ := hv
  obtain ⟨A0, p0, rfl, -, -⟩ := h1
  obtain ⟨A, cap, rfl, -, -⟩ := h2
  have HE := Lib.hid hE
  have hg := ggood_of_gchk t [] 60 hE
  have hp := gparts_ok hE
  clear hE
  go_enter Tryd.func31, Tryd.ntmps31
  go_wp2_with fail
  obtain ⟨W, hW⟩ : ∃ W, w.alloc (.cells #[.int .i64 t.kind, .string ⟨t.frm.toArray⟩, .string ⟨t.rcv.toArray⟩, .int .i64 t.sort, .string ⟨t.name.toArray⟩, .slice A0 t.labels.length p0, .slice A t.kids.length cap] 52) = W := ⟨_, rfl⟩
  have hbx : GBox W w.heap.size t (.slice A0 t.labels.length p0) (.slice A t.kids.length cap) := by subst hW; exact new_gval w t (.slice A0 t.labels.length p0) (.slice A t.kids.length cap) 52
  have hb0 : Below w.heap.size w W := by subst hW; exact (Below.refl _ _).alloc (Nat.le_refl _) _
  try rw [hW]
  clear hW
  refine (gCheck_any t _ _ (IsGl.keep HZ.out hb0) hf).mono ?_; rw [HE.out]; rintro e w1 ⟨rfl, hb1⟩
  obtain ⟨b0, b1, b2, b3, b4, b5, b6, b7, b8⟩ := hbx.keep hb1 hbx.lt
  have hb2 := chain hb0 hb1
  clear hbx
  go_wp2_with fail
  have hwr := gwrite_any (gparts t) t (.agg #[.int .i64 t.kind, .string ⟨t.frm.toArray⟩, .string ⟨t.rcv.toArray⟩, .int .i64 t.sort, .string ⟨t.name.toArray⟩, .slice A0 t.labels.length p0, .slice A t.kids.length cap]) w1 (Nat.le_refl _) hp (IsGl.keep HZ.out hb2) hg (hsw.keep hb2)
  unfold GSays at hwr
  clear hsw
  refine hwr.mono ?_; clear hwr; rintro e w2 ⟨rfl, hb3⟩
  go_wp2_with fail
  exact bodyPost_ret (v := .tuple #[.string ⟨(gtxt t).toArray⟩, .int .i64 0]) (by simp [results, Tryd.results31, go_sem]) rfl ⟨rfl, chain hb2 hb3⟩

theorem gRoles_bad (t : Gl) (v : Value) (w : World) (hv : IsGl w v t) (hf : GFit t) (E : Int) (hE : glErr t = E) (h0 : E ≠ 0) :
    Calls Tryd.prog 32 #[v] w fun e w' => e = .returned (.tuple #[.slice none 0 0, .int .i64 E]) ∧ Below w.heap.size w w' := by
  have HZ := Lib.hid hv
  obtain ⟨lv, kv, rfl, h1, h2⟩ := hv
  obtain ⟨A0, p0, rfl, -, -⟩ := h1
  obtain ⟨A, cap, rfl, -, -⟩ := h2
  have HE := Lib.hid hE
  have hb : (E != 0) = true := by rw [bne_iff_ne]; exact h0
  clear h0 hE
  go_enter Tryd.func32, Tryd.ntmps32
  go_wp2_with fail
  refine (gCheck_any t _ _ (IsGl.keep HZ.out (by go_grown)) hf).mono ?_; rw [HE.out]; rintro e w1 ⟨rfl, hb1⟩
  go_wp2_with fail
  exact bodyPost_ret (v := .tuple #[.slice none 0 0, .int .i64 E]) (by simp [results, Tryd.results32, go_sem]) rfl ⟨rfl, by first | exact hb1 | exact chain (by go_grown) hb1⟩

set_option maxHeartbeats 4000000 in
theorem gRoles_ok (t : Gl) (v : Value) (w : World) (hv : IsGl w v t) (hf : GFit t) (hE : glErr t = 0) :
    Calls Tryd.prog 32 #[v] w fun e w' => Below w.heap.size w w' ∧ ∃ v', e = .returned (.tuple #[v', .int .i64 0]) ∧ w'.ownsRow w.heap.size 9 1 v' (grolesOf t).length (strVals (grolesOf t)) := by
  have HZ := Lib.hid hv
  obtain ⟨lv, kv, rfl, h1, h2⟩ := hv
  obtain ⟨A0, p0, rfl, -, -⟩ := h1
  obtain ⟨A, cap, rfl, -, -⟩ := h2
  have HE := Lib.hid hE
  have hg := ggood_of_gchk t [] 60 hE
  have hp := gparts_ok hE
  clear hE
  go_enter Tryd.func32, Tryd.ntmps32
  go_wp2_with fail
  obtain ⟨W, hW⟩ : ∃ W, w.alloc (.cells #[.int .i64 t.kind, .string ⟨t.frm.toArray⟩, .string ⟨t.rcv.toArray⟩, .int .i64 t.sort, .string ⟨t.name.toArray⟩, .slice A0 t.labels.length p0, .slice A t.kids.length cap] 52) = W := ⟨_, rfl⟩
  have hbx : GBox W w.heap.size t (.slice A0 t.labels.length p0) (.slice A t.kids.length cap) := by subst hW; exact new_gval w t (.slice A0 t.labels.length p0) (.slice A t.kids.length cap) 52
  have hb0 : Below w.heap.size w W := by subst hW; exact (Below.refl _ _).alloc (Nat.le_refl _) _
  try rw [hW]
  clear hW
  refine (gCheck_any t _ _ (IsGl.keep HZ.out hb0) hf).mono ?_; rw [HE.out]; rintro e w1 ⟨rfl, hb1⟩
  obtain ⟨b0, b1, b2, b3, b4, b5, b6, b7, b8⟩ := hbx.keep hb1 hbx.lt
  have hb2 := chain hb0 hb1
  clear hbx
  go_wp2_with fail
  have hrl := roles_any (gparts t) t (.agg #[.int .i64 t.kind, .string ⟨t.frm.toArray⟩, .string ⟨t.rcv.toArray⟩, .int .i64 t.sort, .string ⟨t.name.toArray⟩, .slice A0 t.labels.length p0, .slice A t.kids.length cap]) w1 (Nat.le_refl _) hp (IsGl.keep HZ.out hb2) hg
  unfold RSays at hrl
  have hlen := grl_len t
  have hcr := compact_roles hg
  refine hrl.mono ?_; clear hrl; rintro e w2 ⟨hb3, v', rfl, own2⟩
  have hb4 := chain hb2 hb3
  have hsz2 := hb3.size
  have hsz1 := hb2.size
  clear hb0 hb1 b0 b1 b2 b3 b4 b5 b6 b7 b8
  obtain ⟨SS, hSS⟩ : ∃ x, grl t = x := ⟨_, rfl⟩
  rw [hSS] at own2 hlen hcr
  clear hSS
  by_cases hnil : v' = .slice none 0 0
  case pos =>
    subst hnil
    have h0 : SS = [] := by
      rcases own2.2 with ⟨-, h0⟩ | ⟨g, c2, cur, hv, _⟩
      · exact List.eq_nil_of_length_eq_zero h0
      · cases hv
    have HGR : Hid (grolesOf t = []) := Lib.hid (by rw [← hcr, h0]; simp [Lib.compact, Lib.compactUpTo])
    clear hcr own2
    go_wp2_with fail
    refine (Tryd.slices_Sort_string_none none 0 w2).mono ?_; rintro e w3 ⟨rfl, rfl⟩
    go_wp2_with fail
    refine (Tryd.slices_Compact_string_empty none 0 w3).mono ?_; rintro e w4 ⟨rfl, rfl⟩
    go_wp2_with fail
    refine (Tryd.slices_Clone_string_nil 0 0 w4).mono ?_; rintro e w5 ⟨rfl, rfl⟩
    go_wp2_with fail
    exact bodyPost_ret (v := .tuple #[.slice none 0 0, .int .i64 0]) (by simp [results, Tryd.results32, go_sem]) rfl ⟨hb4, _, rfl, by rw [HGR.out]; exact World.ownsRow_nil _ _ _ _⟩
  case neg =>
    obtain ⟨g, c2, rfl, hbg, hgl, hncap, hcm, hlen2, hH⟩ := Lib.holds_of_ownsRow (enc := encStr) own2 hnil
    clear hnil
    go_wp2_with fail
    refine (Tryd.slices_Sort_string g 0 c2 SS w2 hH hgl (by omega)).mono ?_
    rintro e w3 ⟨rfl, nn, os, hw3⟩
    have hso := sorted_own (nn := nn) (os := os) own2
    have hgb : w2.grownBy w3 (some g) := by rw [hw3]; exact grownBy_sorted _
    rw [← hw3] at hso
    clear hw3
    obtain ⟨own3, -, -, -, -⟩ := hso
    have hts : (SS.mergeSort fun x y => decide (x ≤ y)).length = SS.length := List.length_mergeSort SS
    have hb5 : Below w.heap.size w w3 := hb4.grown hgb hb4.size (fun k e => by have := Option.some.inj e; omega)
    generalize (SS.mergeSort fun x y => decide (x ≤ y)) = TS at own3 hts hcr
    clear own2 hH hgb hb4 hb3 hb2
    rw [← hts]
    have hts2 : TS.length ≤ 120 := by omega
    clear hts
    go_wp2_with fail
    obtain ⟨g', c3, e3, hbg3, hgl3, hncap3, hcm3, hlen3, hH3⟩ := Lib.holds_of_ownsRow (enc := encStr) own3 (by intro e; cases e)
    cases e3
    refine (Tryd.slices_Compact_string g 0 c2 TS w3 hH3 (by omega) (by omega)).mono ?_
    rintro e w4 ⟨rfl, q, hw4⟩
    have hcl : (Lib.compact TS).length ≤ TS.length := Lib.compact_length_le TS
    have own4 := Lib.ownsRow_putRow (q := q) (k := (Lib.compact TS).length) (ys := Lib.compact TS ++ List.replicate (TS.length - (Lib.compact TS).length) []) own3 (by rw [List.length_append, List.length_replicate]; omega) hcl
    rw [List.take_left, ← hw4] at own4
    have hb6 : Below w.heap.size w w4 := by rw [hw4]; exact Lib.below_putRow hb5 (by omega)
    clear hw4 hH3 own3
    obtain ⟨GR, hGR⟩ : ∃ x, Lib.compact TS = x := ⟨_, rfl⟩
    have HGR : Hid (grolesOf t = GR) := Lib.hid (by rw [← hcr, hGR])
    rw [hGR] at own4 hcl ⊢
    clear hGR hcr
    have hgl4 := (own4.lt g rfl).2
    have hcs := own4.cells (g := g) rfl
    go_wp2_with fail
    refine (Tryd.slices_Clone_string g 0 GR.length c2 (GR.map fun s => ⟨s.toArray⟩) w4 (by rw [List.length_map]; exact Nat.le_refl _) (by omega) (fun j hj => ?_)).mono ?_
    · rw [List.length_map] at hj
      have h1 := hcs j (.string ⟨(GR.getD j []).toArray⟩) (by rw [List.getElem?_map]; simp [List.getD, List.getElem?_eq_getElem hj])
      rw [Go.WideShapes.add_plain] at h1
      rw [h1]
      simp [List.getD, List.getElem?_eq_getElem hj]
    · rintro e w5 ⟨v5, rfl, own5, -, hb7⟩
      have hs6 := hb6.size
      have own6 : w5.ownsRow w.heap.size 9 1 v5 GR.length (strVals GR) := by
        have h2 : ((GR.map fun s => (⟨s.toArray⟩ : ByteArray)).take GR.length).map Value.string = strVals GR := by
          rw [List.take_of_length_le (by rw [List.length_map]; exact Nat.le_refl _), List.map_map]; rfl
        rw [h2] at own5
        exact own_mono own5 hs6
      clear own5 own4 hcs
      go_wp2_with fail
      exact bodyPost_ret (v := .tuple #[v5, .int .i64 0]) (by simp [results, Tryd.results32, go_sem]) rfl ⟨chain hb6 hb7, _, rfl, by rw [HGR.out]; exact own6⟩
end Go.Proofs.YtgnkncfnkjeinaaDoor
