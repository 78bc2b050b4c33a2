/-
  Texts of choices: types.write, whole.
-/
import Derived.Test.YtcacembpegoghaaDoorTyY
namespace Go.Proofs.YtcacembpegoghaaDoor
open Go.RowKit Go.Proofs
set_option maxRecDepth 100000

theorem join_eq : ∀ (l : List Str), Lib.join l [44] = joined l
  | [] => by simp [Lib.join, joined, List.intercalate]
  | [a] => by simp [Lib.join, joined, List.intercalate]
  | a :: b :: r => by
    have := join_eq (b :: r)
    simp only [Lib.join, List.intercalate, joined] at this ⊢
    rw [← this]
    simp [List.intersperse]

set_option maxHeartbeats 4000000 in
theorem write_6 (m : Nat) (ih : ∀ (t : Ty) (v : Value) (w : World), parts t ≤ m → parts t ≤ 60 → IsTy w v t → Good t → Sorts w → TextSays 115 t v w)
    (ls : List Str) (ks : List Ty) (v : Value) (w : World) (hks : ∀ c ∈ ks, parts c ≤ m ∧ parts c ≤ 60 ∧ Good c) (hl6 : ls.length ≤ 6) (hl1 : 1 ≤ ls.length) (hls : ∀ l ∈ ls, l.length ≤ 8) (hlen : ks.length = ls.length) (hv : IsTy w v (.mk 6 0 [] ls ks)) (hsw : Sorts w) : TextSays 115 (.mk 6 0 [] ls ks) v w := by
  unfold TextSays
  obtain ⟨lv, kv, rfl, hs1, hs2⟩ := hv
  simp only [Ty.kind, Ty.sort, Ty.name, Ty.labels, Ty.kids] at hs1 hs2 ⊢
  have HLS := Lib.hid hs1
  obtain ⟨A0, p0, rfl, -, -⟩ := hs1
  have HK := Lib.hid hs2
  obtain ⟨A, cap, rfl, -, -⟩ := hs2
  have HSW := Lib.hid hsw; clear hsw
  obtain ⟨P, hP⟩ : ∃ x, pairs ls (txts ks) = x := ⟨_, rfl⟩
  have hPl : P.length = ls.length := by rw [← hP, pairs_length (by rw [txts_length, hlen])]
  have hPx : ∀ x ∈ P, x.length ≤ 6009 := by
    rw [← hP]
    refine pairs_le hls fun t ht => ?_
    obtain ⟨c, hc, rfl⟩ := txts_mem ht
    have h1 := txt_len c (hks c hc).2.2
    have h2 := (hks c hc).2.1
    omega
  have hjl : (joined P).length ≤ 40000 := by
    have h1 := grow_len (sg := 43) hPx (k := P.length) (Nat.le_refl _)
    unfold grow at h1
    rw [if_neg (by omega), List.take_length] at h1
    simp only [List.length_append, List.length_cons, List.length_nil] at h1
    omega
  have hans : txt (.mk 6 0 [] ls ks) = [43, 123] ++ joined P ++ [125] := by
    rw [← hP]
    simp [txt, txtOf]
  rw [hans]
  clear hans
  have HPX := Lib.hid hPx; have HPP := Lib.hid hP; have HKS := Lib.hid hks; have HLE := Lib.hid hls
  obtain ⟨L, hL⟩ : ∃ x, ls.length = x := ⟨_, rfl⟩
  have HL1 := Lib.hid hL; have HL2 := Lib.hid (hlen.trans hL); have HL3 := Lib.hid (hPl.trans hL)
  rw [hlen] at HK ⊢
  rw [hL] at HK HLS hl6 hl1 ⊢
  clear hL hlen hPl hPx hP hks hls
  go_enter Tryd.func115, Tryd.ntmps115
  go_wp2_with fail
  obtain ⟨W, hW⟩ : ∃ W, w.alloc (.cells #[.int .i64 6, .int .i64 0, .string ⟨#[]⟩, .slice A0 L p0, .slice A L cap] 51) = W := ⟨_, rfl⟩
  have hbW : Below w.heap.size w W := by subst hW; go_grown
  have hWs : W.heap.size = w.heap.size + 1 := by subst hW; simp
  have X0 : W.cell? ⟨w.heap.size, 0, none⟩ = some (.int .i64 6) := by subst hW; simp [go_sem]
  have X3 : W.cell? ⟨w.heap.size, 3, none⟩ = some (.slice A0 L p0) := by subst hW; simp [go_sem]
  try rw [hW]
  clear hW
  obtain ⟨N, hN⟩ : ∃ x, W.heap.size = x := ⟨_, rfl⟩
  go_loopw [3, 90] (fun lv i wr => ∃ k : Nat, k ≤ L ∧ i = .int .i64 k ∧ wr.ownsRow N 9 1 lv k ((P.take k).map fun s => .string ⟨s.toArray⟩) ∧ Below N W wr) (fun _ i _ => L - (intOf i).toNat)
  case atStart => exact ⟨0, by omega, rfl, World.ownsRow_nil _ _ _ _, Below.refl _ _⟩
  case round =>
    obtain ⟨k, hk, rfl, hown, hbN⟩ := hrel
    have hbr : Below W.heap.size W wr := by rw [hN]; exact hbN
    have hNr : N ≤ wr.heap.size := by rw [← hN]; exact hbr.size
    have x3 := cell_keep X3 hbr
    have x0 := cell_keep X0 hbr
    obtain ⟨Av, capv, rfl⟩ := own_form hown
    by_cases hlt : k < L
    · obtain ⟨c, hc⟩ : ∃ x, ks[k]? = some x := ⟨_, List.getElem?_eq_getElem (by rw [HL2.out]; exact hlt)⟩
      obtain ⟨l, hl⟩ : ∃ x, ls[k]? = some x := ⟨_, List.getElem?_eq_getElem (by rw [HL1.out]; exact hlt)⟩
      have HC := Lib.hid hc; have HLk := Lib.hid hl
      obtain ⟨-, -, b, off, A1, n1, p1, A2, n2, p2, rfl, c0, c1, c2, c3, c4, hl', hk'⟩ := kid_at ((HK.out.keep hbW).keep hbr) hc
      obtain ⟨lA, lp, el, hlc, hlr⟩ := (HLS.out.keep hbW).keep hbr
      obtain ⟨lb, loff, rfl, hlrow⟩ := hlr (by rw [HL1.out]; omega)
      injection el with el1 el2 el3
      subst el1 el3
      clear el2
      have clab := hlrow k l hl
      have HL' := Lib.hid hl'; have HK' := Lib.hid hk'; clear hl' hk' hc hl
      have hcm := HKS.out c (mem_of_at HC.out)
      have hll := HLE.out l (mem_of_at HLk.out)
      have htl : (txt c).length ≤ 6000 := by have h1 := txt_len c hcm.2.2; have h2 := hcm.2.1; omega
      have hpair : P[k]? = some (l ++ [58] ++ txt c) := by rw [← HPP.out]; exact pairs_at HLk.out (txts_at HC.out)
      obtain ⟨T, hT⟩ : ∃ y, txt c = y := ⟨_, rfl⟩
      have HT := Lib.hid hT
      rw [hT] at htl hpair
      have HPR := Lib.hid hpair
      clear hT hpair
      have hlbN : lb < N := by
        obtain ⟨_, _, e, _, hr⟩ := HLS.out.keep hbW
        obtain ⟨b2, o2, e2, hrow2⟩ := hr (by rw [HL1.out]; omega)
        injection e with e1
        rw [e2] at e1
        obtain rfl : lb = b2 := by injection e1 with e1; injection e1
        rw [← hN]
        exact cell_lt (hrow2 k l HLk.out)
      obtain ⟨wa, hwa⟩ : ∃ y, wr.alloc (.cells #[.int .i64 c.kind, .int .i64 c.sort, .string ⟨c.name.toArray⟩, .slice A1 n1 p1, .slice A2 n2 p2] 51) = y := ⟨_, rfl⟩
      have hba : Below wr.heap.size wr wa := by subst hwa; exact (Below.refl _ _).alloc (Nat.le_refl _) _
      have hsa : wa.heap.size = wr.heap.size + 1 := by subst hwa; simp
      have hkb : VBox wa wr.heap.size c (.slice A1 n1 p1) (.slice A2 n2 p2) := by subst hwa; exact ⟨by simp [go_sem], by simp [go_sem], by simp [go_sem], by simp [go_sem], by simp [go_sem], fun j => by simp [go_sem], by simp⟩
      obtain ⟨k0, k1, k2, k3, k4, k5, k6⟩ := id hkb
      have hBN : w.heap.size < N := by omega
      have hS : ∀ w' : World, Same (fun b => b < N ∨ b = wr.heap.size) wa w' → (fun w' : World => w'.cell? ⟨w.heap.size, 3, none⟩ = some (.slice (some ⟨lb, loff, none⟩) L p0) ∧ w'.cell? ⟨lb, loff + k, none⟩ = some (.string ⟨l.toArray⟩) ∧ w'.cell? ⟨wr.heap.size, 0, none⟩ = some (.int .i64 c.kind) ∧ w'.cell? ⟨wr.heap.size, 1, none⟩ = some (.int .i64 c.sort) ∧ w'.cell? ⟨wr.heap.size, 2, none⟩ = some (.string ⟨c.name.toArray⟩) ∧ w'.cell? ⟨wr.heap.size, 3, none⟩ = some (.slice A1 n1 p1) ∧ w'.cell? ⟨wr.heap.size, 4, none⟩ = some (.slice A2 n2 p2)) w' := fun w' h => ⟨h.cell (by first | (left; omega) | (right; rfl)) (cell_keep x3 hba), h.cell (by first | (left; omega) | (right; rfl)) (cell_keep clab hba), h.cell (by first | (left; omega) | (right; rfl)) k0, h.cell (by first | (left; omega) | (right; rfl)) k1, h.cell (by first | (left; omega) | (right; rfl)) k2, h.cell (by first | (left; omega) | (right; rfl)) k3, h.cell (by first | (left; omega) | (right; rfl)) k4⟩
      have HSd := Lib.hid (hS wa.drew (fun _ _ _ => rfl))
      have HSB := Lib.hid hS; clear hS
      have hne : ∀ q, q < N ∨ q = wr.heap.size → some q ≠ (Value.slice Av k capv).ownBlock := fun q hq e => by
        obtain ⟨h1, h2⟩ := hown.lt q e.symm
        omega
      go_wp2_with fail
      try rw [hwa]
      clear hwa
      refine wp_region_T 12 (fun w' : World => w'.cell? ⟨w.heap.size, 3, none⟩ = some (.slice (some ⟨lb, loff, none⟩) L p0) ∧ w'.cell? ⟨lb, loff + k, none⟩ = some (.string ⟨l.toArray⟩) ∧ w'.cell? ⟨wr.heap.size, 0, none⟩ = some (.int .i64 c.kind) ∧ w'.cell? ⟨wr.heap.size, 1, none⟩ = some (.int .i64 c.sort) ∧ w'.cell? ⟨wr.heap.size, 2, none⟩ = some (.string ⟨c.name.toArray⟩) ∧ w'.cell? ⟨wr.heap.size, 3, none⟩ = some (.slice A1 n1 p1) ∧ w'.cell? ⟨wr.heap.size, 4, none⟩ = some (.slice A2 n2 p2)) (by kernel_rfl) ?_
      refine wpT_take (i := 0) (v := ?_) rfl (by kernel_rfl) (by kernel_rfl) (by kernel_rfl) (by kernel_rfl) (fun _ _ _ h => h) (Or.inl ⟨by rfl, ?_⟩) HSd.out ?_
      rotate_left
      · (intro wq hSw; obtain ⟨q0, q1, q2, q3, q4, q5, q6⟩ := hSw; go_simp; all_goals (first | (with_reducible rfl) | (rw [if_neg (by first | omega | (simp; omega) | (simp only [List.length_append, List.length_cons, List.length_nil]; omega))])))
      simp only [List.getElem_toArray, List.getElem_cons_succ, List.getElem_cons_zero, Act.put, List.setIfInBounds_toArray, List.set_cons_zero, List.set_cons_succ]
      refine wpT_take (i := 1) (v := ?_) rfl (by kernel_rfl) (by kernel_rfl) (by kernel_rfl) (by kernel_rfl) (fun _ _ _ h => h) (Or.inl ⟨by rfl, ?_⟩) HSd.out ?_
      rotate_left
      · (intro wq hSw; obtain ⟨q0, q1, q2, q3, q4, q5, q6⟩ := hSw; go_simp; all_goals (first | (with_reducible rfl) | (rw [if_neg (by first | omega | (simp; omega) | (simp only [List.length_append, List.length_cons, List.length_nil]; omega))])))
      simp only [List.getElem_toArray, List.getElem_cons_succ, List.getElem_cons_zero, Act.put, List.setIfInBounds_toArray, List.set_cons_zero, List.set_cons_succ]
      refine wpT_take (i := 2) (v := ?_) rfl (by kernel_rfl) (by kernel_rfl) (by kernel_rfl) (by kernel_rfl) (fun _ _ _ h => h) (Or.inl ⟨by rfl, ?_⟩) HSd.out ?_
      rotate_left
      · (intro wq hSw; obtain ⟨q0, q1, q2, q3, q4, q5, q6⟩ := hSw; go_simp; all_goals (first | (with_reducible rfl) | (rw [if_neg (by first | omega | (simp; omega) | (simp only [List.length_append, List.length_cons, List.length_nil]; omega))])))
      simp only [List.getElem_toArray, List.getElem_cons_succ, List.getElem_cons_zero, Act.put, List.setIfInBounds_toArray, List.set_cons_zero, List.set_cons_succ]
      refine wpT_take (i := 3) (v := ?_) rfl (by kernel_rfl) (by kernel_rfl) (by kernel_rfl) (by kernel_rfl) (fun _ _ _ h => h) (Or.inl ⟨by rfl, ?_⟩) HSd.out ?_
      rotate_left
      · (intro wq hSw; obtain ⟨q0, q1, q2, q3, q4, q5, q6⟩ := hSw; go_simp; all_goals (first | (with_reducible rfl) | (rw [if_neg (by first | omega | (simp; omega) | (simp only [List.length_append, List.length_cons, List.length_nil]; omega))])))
      simp only [List.getElem_toArray, List.getElem_cons_succ, List.getElem_cons_zero, Act.put, List.setIfInBounds_toArray, List.set_cons_zero, List.set_cons_succ]
      refine wpT_take (i := 4) (v := ?_) rfl (by kernel_rfl) (by kernel_rfl) (by kernel_rfl) (by kernel_rfl) (fun _ _ _ h => h) (Or.inl ⟨by rfl, ?_⟩) HSd.out ?_
      rotate_left
      · (intro wq hSw; obtain ⟨q0, q1, q2, q3, q4, q5, q6⟩ := hSw; go_simp; all_goals (first | (with_reducible rfl) | (rw [if_neg (by first | omega | (simp; omega) | (simp only [List.length_append, List.length_cons, List.length_nil]; omega))])))
      simp only [List.getElem_toArray, List.getElem_cons_succ, List.getElem_cons_zero, Act.put, List.setIfInBounds_toArray, List.set_cons_zero, List.set_cons_succ]
      refine wpT_take (i := 5) (v := ?_) rfl (by kernel_rfl) (by kernel_rfl) (by kernel_rfl) (by kernel_rfl) (fun _ _ _ h => h) (Or.inl ⟨by rfl, ?_⟩) HSd.out ?_
      rotate_left
      · (intro wq hSw; obtain ⟨q0, q1, q2, q3, q4, q5, q6⟩ := hSw; go_simp; all_goals (first | (with_reducible rfl) | (rw [if_neg (by first | omega | (simp; omega) | (simp only [List.length_append, List.length_cons, List.length_nil]; omega))])))
      simp only [List.getElem_toArray, List.getElem_cons_succ, List.getElem_cons_zero, Act.put, List.setIfInBounds_toArray, List.set_cons_zero, List.set_cons_succ]
      refine wpT_take (i := 6) (v := ?_) rfl (by kernel_rfl) (by kernel_rfl) (by kernel_rfl) (by kernel_rfl) (fun _ _ _ h => h) (Or.inl ⟨by rfl, ?_⟩) HSd.out ?_
      rotate_left
      · (intro wq hSw; obtain ⟨q0, q1, q2, q3, q4, q5, q6⟩ := hSw; go_simp; all_goals (first | (with_reducible rfl) | (rw [if_neg (by first | omega | (simp; omega) | (simp only [List.length_append, List.length_cons, List.length_nil]; omega))])))
      simp only [List.getElem_toArray, List.getElem_cons_succ, List.getElem_cons_zero, Act.put, List.setIfInBounds_toArray, List.set_cons_zero, List.set_cons_succ]
      refine wpT_take (i := 7) (v := ?_) rfl (by kernel_rfl) (by kernel_rfl) (by kernel_rfl) (by kernel_rfl) (fun _ _ _ h => h) (Or.inl ⟨by rfl, ?_⟩) HSd.out ?_
      rotate_left
      · (intro wq hSw; obtain ⟨q0, q1, q2, q3, q4, q5, q6⟩ := hSw; go_simp; all_goals (first | (with_reducible rfl) | (rw [if_neg (by first | omega | (simp; omega) | (simp only [List.length_append, List.length_cons, List.length_nil]; omega))])))
      simp only [List.getElem_toArray, List.getElem_cons_succ, List.getElem_cons_zero, Act.put, List.setIfInBounds_toArray, List.set_cons_zero, List.set_cons_succ]
      refine wpT_one (i := 8) rfl (by kernel_rfl) fun K hK => ?_
      go_simp
      have hcall := ih c (.agg #[.int .i64 c.kind, .int .i64 c.sort, .string ⟨c.name.toArray⟩, .slice A1 n1 p1, .slice A2 n2 p2]) wa.drew hcm.1 hcm.2.1 (((isTy_of HL'.out HK'.out).keep hba).keep (Below.refl wa.heap.size wa).drew) hcm.2.2 ((((HSW.out.keep hbW).keep hbr).keep hba).keep (Below.refl wa.heap.size wa).drew)
      unfold TextSays at hcall
      refine hcall.mono ?_; clear hcall; rw [HT.out]; rintro e w1 ⟨rfl, hq⟩
      have hba1 : Below wa.heap.size wa w1 := chain (Below.refl wa.heap.size wa).drew hq
      have hb1 : Below wr.heap.size wr w1 := chain hba hba1
      have hs1 := hb1.size
      have hs2 := hba1.size
      clear hq
      refine hK.out _ _ (fun _ => HSB.out _ (Same.below hba1)) ?_
      clear hK K
      try simp only [List.getElem_toArray, List.getElem_cons_succ, List.getElem_cons_zero, Act.put, List.setIfInBounds_toArray, List.set_cons_zero, List.set_cons_succ]
      refine wpT_take (i := 9) (v := ?_) rfl (by kernel_rfl) (by kernel_rfl) (by kernel_rfl) (by kernel_rfl) (fun _ _ _ h => h) (Or.inl ⟨by rfl, ?_⟩) (HSB.out _ (Same.below hba1)) ?_
      rotate_left
      · (intro wq hSw; obtain ⟨q0, q1, q2, q3, q4, q5, q6⟩ := hSw; go_simp; all_goals (first | (with_reducible rfl) | (rw [if_neg (by first | omega | (simp; omega) | (simp only [List.length_append, List.length_cons, List.length_nil]; omega))])))
      simp only [List.getElem_toArray, List.getElem_cons_succ, List.getElem_cons_zero, Act.put, List.setIfInBounds_toArray, List.set_cons_zero, List.set_cons_succ]
      refine wpT_one (i := 10) rfl (by kernel_rfl) fun K hK => ?_
      go_simp
      have hsA := Below.trans hba1 ((Below.refl _ w1).alloc hs2 (.cells #[.string ⟨(l ++ 58 :: T).toArray⟩] 9))
      have hbA : Below N wr (w1.alloc (.cells #[.string ⟨(l ++ 58 :: T).toArray⟩] 9)) := (hb1.mono hNr).alloc (by omega) _
      refine hK.out _ _ (fun _ => HSB.out _ (Same.below hsA)) ?_
      clear hK K
      try simp only [List.getElem_toArray, List.getElem_cons_succ, List.getElem_cons_zero, Act.put, List.setIfInBounds_toArray, List.set_cons_zero, List.set_cons_succ]
      refine wpT_one (i := 11) rfl (by kernel_rfl) fun K hK => ?_
      refine step_app rt_strs rfl (.tmp 95) (.tmp 105) rfl N (.slice Av k capv) k _ rfl ((own_keep hown hb1 (Nat.le_refl _)).alloc _) ⟨w1.heap.size, 0, none⟩ 1 1 [.string ⟨(l ++ 58 :: T).toArray⟩] rfl rfl (cell_one_new _ _ _) (by simp [Value.oneCell']) (by unfold maxLen; omega) (by omega) (by rw [World.size_alloc]; omega) (fun v' w3 n1' n2' n3' n4' => ?_)
      obtain ⟨Aw, capw, rfl⟩ := own_form n1'
      have hb3 := hbA.trans n4'
      refine hK.out _ _ (fun _ => HSB.out _ (Same.trans (Same.below hsA) hsA.size (Same.grown n2' hne))) ?_
      clear hK K
      try simp only [List.getElem_toArray, List.getElem_cons_succ, List.getElem_cons_zero, Act.put, List.setIfInBounds_toArray, List.set_cons_zero, List.set_cons_succ]
      refine wpT_one (i := 12) rfl (by kernel_rfl) fun K hK => ?_
      go_simp
      refine hK.out _ _ (fun h => absurd h (by decide)) ?_
      clear hK K
      try simp only [List.getElem_toArray, List.getElem_cons_succ, List.getElem_cons_zero, Act.put, List.setIfInBounds_toArray, List.set_cons_zero, List.set_cons_succ]
      refine wpT_done (by kernel_rfl) ?_
      have hown3 : w3.ownsRow N 9 1 (.slice Aw (k + 1) capw) (k + 1) ((P.take (k + 1)).map fun s => .string ⟨s.toArray⟩) := by
        rw [List.take_add_one, HPR.out]
        simpa using n1'
      have hbN3 := hbN.trans hb3
      clear HSB HSd n1' n2' n3' n4' hb3
      go_wp2_with fail
      go_roundw
      case rel => exact ⟨k + 1, by omega, by go_num, hown3, hbN3⟩
      case measure => simp [intOf]; omega
    · have hkL : k = L := by omega
      subst hkL
      clear hlt
      have htk : P.take k = P := List.take_of_length_le (by rw [HL3.out]; exact Nat.le_refl _)
      rw [htk] at hown
      have hcs := fun g => hown.cells (g := g)
      rcases id hown.2 with ⟨e, h0⟩ | ⟨g, cap', cur, e, hg, _, hn, _⟩
      · omega
      · injection e with e1 e2 e3
        subst e1 e3
        have hcells : ∀ (j : Nat) x, (P.map fun s => (⟨s.toArray⟩ : ByteArray))[j]? = some x → wr.cell? ⟨g, 0 + j, none⟩ = some (.string x) := fun j x hx => by
          rw [List.getElem?_map] at hx
          obtain ⟨s, hs, rfl⟩ := Option.map_eq_some_iff.1 hx
          have := hcs g rfl j (.string ⟨s.toArray⟩) (by rw [List.getElem?_map, hs]; rfl)
          rw [Go.WideShapes.add_plain] at this
          exact this
        have hgl : g < wr.heap.size := (hown.lt g rfl).2
        have hmm : (P.map fun s => (⟨s.toArray⟩ : ByteArray)).map (·.data.toList) = P := by rw [List.map_map]; exact (List.map_congr_left (fun s _ => rfl)).trans (List.map_id P)
        have hjoin := Tryd.strings_Join g 0 capv (P.map fun s => ⟨s.toArray⟩) ⟨#[44]⟩ wr hcells hgl (by rw [List.length_map, HL3.out]; omega) (by rw [List.length_map, HL3.out]; exact hn) (by rw [hmm]; show (Lib.join P [44]).length ≤ _; rw [join_eq]; omega)
        rw [hmm, List.length_map, HL3.out] at hjoin
        have hj2 : Lib.join P (⟨#[44]⟩ : ByteArray).data.toList = joined P := join_eq P
        rw [hj2] at hjoin
        obtain ⟨J, hJ⟩ : ∃ x, joined P = x := ⟨_, rfl⟩
        rw [hJ] at hjoin hjl
        have HJ := Lib.hid hJ
        have HJN := Lib.hid hjoin
        clear hjoin hJ hj2 hcells hcs hown
        go_wp2_with fail
        refine HJN.out.mono ?_; rintro e w1 ⟨rfl, hb1⟩
        go_wp2_with fail
        go_ret
        exact ⟨by rw [HJ.out]; simp, chain hbW (chain hbr hb1)⟩

set_option maxHeartbeats 4000000 in
theorem write_7 (m : Nat) (ih : ∀ (t : Ty) (v : Value) (w : World), parts t ≤ m → parts t ≤ 60 → IsTy w v t → Good t → Sorts w → TextSays 115 t v w)
    (ls : List Str) (ks : List Ty) (v : Value) (w : World) (hks : ∀ c ∈ ks, parts c ≤ m ∧ parts c ≤ 60 ∧ Good c) (hl6 : ls.length ≤ 6) (hl1 : 1 ≤ ls.length) (hls : ∀ l ∈ ls, l.length ≤ 8) (hlen : ks.length = ls.length) (hv : IsTy w v (.mk 7 0 [] ls ks)) (hsw : Sorts w) : TextSays 115 (.mk 7 0 [] ls ks) v w := by
  unfold TextSays
  obtain ⟨lv, kv, rfl, hs1, hs2⟩ := hv
  simp only [Ty.kind, Ty.sort, Ty.name, Ty.labels, Ty.kids] at hs1 hs2 ⊢
  have HLS := Lib.hid hs1
  obtain ⟨A0, p0, rfl, -, -⟩ := hs1
  have HK := Lib.hid hs2
  obtain ⟨A, cap, rfl, -, -⟩ := hs2
  have HSW := Lib.hid hsw; clear hsw
  obtain ⟨P, hP⟩ : ∃ x, pairs ls (txts ks) = x := ⟨_, rfl⟩
  have hPl : P.length = ls.length := by rw [← hP, pairs_length (by rw [txts_length, hlen])]
  have hPx : ∀ x ∈ P, x.length ≤ 6009 := by
    rw [← hP]
    refine pairs_le hls fun t ht => ?_
    obtain ⟨c, hc, rfl⟩ := txts_mem ht
    have h1 := txt_len c (hks c hc).2.2
    have h2 := (hks c hc).2.1
    omega
  have hjl : (joined P).length ≤ 40000 := by
    have h1 := grow_len (sg := 43) hPx (k := P.length) (Nat.le_refl _)
    unfold grow at h1
    rw [if_neg (by omega), List.take_length] at h1
    simp only [List.length_append, List.length_cons, List.length_nil] at h1
    omega
  have hans : txt (.mk 7 0 [] ls ks) = [38, 123] ++ joined P ++ [125] := by
    rw [← hP]
    simp [txt, txtOf]
  rw [hans]
  clear hans
  have HPX := Lib.hid hPx; have HPP := Lib.hid hP; have HKS := Lib.hid hks; have HLE := Lib.hid hls
  obtain ⟨L, hL⟩ : ∃ x, ls.length = x := ⟨_, rfl⟩
  have HL1 := Lib.hid hL; have HL2 := Lib.hid (hlen.trans hL); have HL3 := Lib.hid (hPl.trans hL)
  rw [hlen] at HK ⊢
  rw [hL] at HK HLS hl6 hl1 ⊢
  clear hL hlen hPl hPx hP hks hls
  go_enter Tryd.func115, Tryd.ntmps115
  go_wp2_with fail
  obtain ⟨W, hW⟩ : ∃ W, w.alloc (.cells #[.int .i64 7, .int .i64 0, .string ⟨#[]⟩, .slice A0 L p0, .slice A L cap] 51) = W := ⟨_, rfl⟩
  have hbW : Below w.heap.size w W := by subst hW; go_grown
  have hWs : W.heap.size = w.heap.size + 1 := by subst hW; simp
  have X0 : W.cell? ⟨w.heap.size, 0, none⟩ = some (.int .i64 7) := by subst hW; simp [go_sem]
  have X3 : W.cell? ⟨w.heap.size, 3, none⟩ = some (.slice A0 L p0) := by subst hW; simp [go_sem]
  try rw [hW]
  clear hW
  obtain ⟨N, hN⟩ : ∃ x, W.heap.size = x := ⟨_, rfl⟩
  go_loopw [3, 90] (fun lv i wr => ∃ k : Nat, k ≤ L ∧ i = .int .i64 k ∧ wr.ownsRow N 9 1 lv k ((P.take k).map fun s => .string ⟨s.toArray⟩) ∧ Below N W wr) (fun _ i _ => L - (intOf i).toNat)
  case atStart => exact ⟨0, by omega, rfl, World.ownsRow_nil _ _ _ _, Below.refl _ _⟩
  case round =>
    obtain ⟨k, hk, rfl, hown, hbN⟩ := hrel
    have hbr : Below W.heap.size W wr := by rw [hN]; exact hbN
    have hNr : N ≤ wr.heap.size := by rw [← hN]; exact hbr.size
    have x3 := cell_keep X3 hbr
    have x0 := cell_keep X0 hbr
    obtain ⟨Av, capv, rfl⟩ := own_form hown
    by_cases hlt : k < L
    · obtain ⟨c, hc⟩ : ∃ x, ks[k]? = some x := ⟨_, List.getElem?_eq_getElem (by rw [HL2.out]; exact hlt)⟩
      obtain ⟨l, hl⟩ : ∃ x, ls[k]? = some x := ⟨_, List.getElem?_eq_getElem (by rw [HL1.out]; exact hlt)⟩
      have HC := Lib.hid hc; have HLk := Lib.hid hl
      obtain ⟨-, -, b, off, A1, n1, p1, A2, n2, p2, rfl, c0, c1, c2, c3, c4, hl', hk'⟩ := kid_at ((HK.out.keep hbW).keep hbr) hc
      obtain ⟨lA, lp, el, hlc, hlr⟩ := (HLS.out.keep hbW).keep hbr
      obtain ⟨lb, loff, rfl, hlrow⟩ := hlr (by rw [HL1.out]; omega)
      injection el with el1 el2 el3
      subst el1 el3
      clear el2
      have clab := hlrow k l hl
      have HL' := Lib.hid hl'; have HK' := Lib.hid hk'; clear hl' hk' hc hl
      have hcm := HKS.out c (mem_of_at HC.out)
      have hll := HLE.out l (mem_of_at HLk.out)
      have htl : (txt c).length ≤ 6000 := by have h1 := txt_len c hcm.2.2; have h2 := hcm.2.1; omega
      have hpair : P[k]? = some (l ++ [58] ++ txt c) := by rw [← HPP.out]; exact pairs_at HLk.out (txts_at HC.out)
      obtain ⟨T, hT⟩ : ∃ y, txt c = y := ⟨_, rfl⟩
      have HT := Lib.hid hT
      rw [hT] at htl hpair
      have HPR := Lib.hid hpair
      clear hT hpair
      have hlbN : lb < N := by
        obtain ⟨_, _, e, _, hr⟩ := HLS.out.keep hbW
        obtain ⟨b2, o2, e2, hrow2⟩ := hr (by rw [HL1.out]; omega)
        injection e with e1
        rw [e2] at e1
        obtain rfl : lb = b2 := by injection e1 with e1; injection e1
        rw [← hN]
        exact cell_lt (hrow2 k l HLk.out)
      obtain ⟨wa, hwa⟩ : ∃ y, wr.alloc (.cells #[.int .i64 c.kind, .int .i64 c.sort, .string ⟨c.name.toArray⟩, .slice A1 n1 p1, .slice A2 n2 p2] 51) = y := ⟨_, rfl⟩
      have hba : Below wr.heap.size wr wa := by subst hwa; exact (Below.refl _ _).alloc (Nat.le_refl _) _
      have hsa : wa.heap.size = wr.heap.size + 1 := by subst hwa; simp
      have hkb : VBox wa wr.heap.size c (.slice A1 n1 p1) (.slice A2 n2 p2) := by subst hwa; exact ⟨by simp [go_sem], by simp [go_sem], by simp [go_sem], by simp [go_sem], by simp [go_sem], fun j => by simp [go_sem], by simp⟩
      obtain ⟨k0, k1, k2, k3, k4, k5, k6⟩ := id hkb
      have hBN : w.heap.size < N := by omega
      have hS : ∀ w' : World, Same (fun b => b < N ∨ b = wr.heap.size) wa w' → (fun w' : World => w'.cell? ⟨w.heap.size, 3, none⟩ = some (.slice (some ⟨lb, loff, none⟩) L p0) ∧ w'.cell? ⟨lb, loff + k, none⟩ = some (.string ⟨l.toArray⟩) ∧ w'.cell? ⟨wr.heap.size, 0, none⟩ = some (.int .i64 c.kind) ∧ w'.cell? ⟨wr.heap.size, 1, none⟩ = some (.int .i64 c.sort) ∧ w'.cell? ⟨wr.heap.size, 2, none⟩ = some (.string ⟨c.name.toArray⟩) ∧ w'.cell? ⟨wr.heap.size, 3, none⟩ = some (.slice A1 n1 p1) ∧ w'.cell? ⟨wr.heap.size, 4, none⟩ = some (.slice A2 n2 p2)) w' := fun w' h => ⟨h.cell (by first | (left; omega) | (right; rfl)) (cell_keep x3 hba), h.cell (by first | (left; omega) | (right; rfl)) (cell_keep clab hba), h.cell (by first | (left; omega) | (right; rfl)) k0, h.cell (by first | (left; omega) | (right; rfl)) k1, h.cell (by first | (left; omega) | (right; rfl)) k2, h.cell (by first | (left; omega) | (right; rfl)) k3, h.cell (by first | (left; omega) | (right; rfl)) k4⟩
      have HSd := Lib.hid (hS wa.drew (fun _ _ _ => rfl))
      have HSB := Lib.hid hS; clear hS
      have hne : ∀ q, q < N ∨ q = wr.heap.size → some q ≠ (Value.slice Av k capv).ownBlock := fun q hq e => by
        obtain ⟨h1, h2⟩ := hown.lt q e.symm
        omega
      go_wp2_with fail
      try rw [hwa]
      clear hwa
      refine wp_region_T 12 (fun w' : World => w'.cell? ⟨w.heap.size, 3, none⟩ = some (.slice (some ⟨lb, loff, none⟩) L p0) ∧ w'.cell? ⟨lb, loff + k, none⟩ = some (.string ⟨l.toArray⟩) ∧ w'.cell? ⟨wr.heap.size, 0, none⟩ = some (.int .i64 c.kind) ∧ w'.cell? ⟨wr.heap.size, 1, none⟩ = some (.int .i64 c.sort) ∧ w'.cell? ⟨wr.heap.size, 2, none⟩ = some (.string ⟨c.name.toArray⟩) ∧ w'.cell? ⟨wr.heap.size, 3, none⟩ = some (.slice A1 n1 p1) ∧ w'.cell? ⟨wr.heap.size, 4, none⟩ = some (.slice A2 n2 p2)) (by kernel_rfl) ?_
      refine wpT_take (i := 0) (v := ?_) rfl (by kernel_rfl) (by kernel_rfl) (by kernel_rfl) (by kernel_rfl) (fun _ _ _ h => h) (Or.inl ⟨by rfl, ?_⟩) HSd.out ?_
      rotate_left
      · (intro wq hSw; obtain ⟨q0, q1, q2, q3, q4, q5, q6⟩ := hSw; go_simp; all_goals (first | (with_reducible rfl) | (rw [if_neg (by first | omega | (simp; omega) | (simp only [List.length_append, List.length_cons, List.length_nil]; omega))])))
      simp only [List.getElem_toArray, List.getElem_cons_succ, List.getElem_cons_zero, Act.put, List.setIfInBounds_toArray, List.set_cons_zero, List.set_cons_succ]
      refine wpT_take (i := 1) (v := ?_) rfl (by kernel_rfl) (by kernel_rfl) (by kernel_rfl) (by kernel_rfl) (fun _ _ _ h => h) (Or.inl ⟨by rfl, ?_⟩) HSd.out ?_
      rotate_left
      · (intro wq hSw; obtain ⟨q0, q1, q2, q3, q4, q5, q6⟩ := hSw; go_simp; all_goals (first | (with_reducible rfl) | (rw [if_neg (by first | omega | (simp; omega) | (simp only [List.length_append, List.length_cons, List.length_nil]; omega))])))
      simp only [List.getElem_toArray, List.getElem_cons_succ, List.getElem_cons_zero, Act.put, List.setIfInBounds_toArray, List.set_cons_zero, List.set_cons_succ]
      refine wpT_take (i := 2) (v := ?_) rfl (by kernel_rfl) (by kernel_rfl) (by kernel_rfl) (by kernel_rfl) (fun _ _ _ h => h) (Or.inl ⟨by rfl, ?_⟩) HSd.out ?_
      rotate_left
      · (intro wq hSw; obtain ⟨q0, q1, q2, q3, q4, q5, q6⟩ := hSw; go_simp; all_goals (first | (with_reducible rfl) | (rw [if_neg (by first | omega | (simp; omega) | (simp only [List.length_append, List.length_cons, List.length_nil]; omega))])))
      simp only [List.getElem_toArray, List.getElem_cons_succ, List.getElem_cons_zero, Act.put, List.setIfInBounds_toArray, List.set_cons_zero, List.set_cons_succ]
      refine wpT_take (i := 3) (v := ?_) rfl (by kernel_rfl) (by kernel_rfl) (by kernel_rfl) (by kernel_rfl) (fun _ _ _ h => h) (Or.inl ⟨by rfl, ?_⟩) HSd.out ?_
      rotate_left
      · (intro wq hSw; obtain ⟨q0, q1, q2, q3, q4, q5, q6⟩ := hSw; go_simp; all_goals (first | (with_reducible rfl) | (rw [if_neg (by first | omega | (simp; omega) | (simp only [List.length_append, List.length_cons, List.length_nil]; omega))])))
      simp only [List.getElem_toArray, List.getElem_cons_succ, List.getElem_cons_zero, Act.put, List.setIfInBounds_toArray, List.set_cons_zero, List.set_cons_succ]
      refine wpT_take (i := 4) (v := ?_) rfl (by kernel_rfl) (by kernel_rfl) (by kernel_rfl) (by kernel_rfl) (fun _ _ _ h => h) (Or.inl ⟨by rfl, ?_⟩) HSd.out ?_
      rotate_left
      · (intro wq hSw; obtain ⟨q0, q1, q2, q3, q4, q5, q6⟩ := hSw; go_simp; all_goals (first | (with_reducible rfl) | (rw [if_neg (by first | omega | (simp; omega) | (simp only [List.length_append, List.length_cons, List.length_nil]; omega))])))
      simp only [List.getElem_toArray, List.getElem_cons_succ, List.getElem_cons_zero, Act.put, List.setIfInBounds_toArray, List.set_cons_zero, List.set_cons_succ]
      refine wpT_take (i := 5) (v := ?_) rfl (by kernel_rfl) (by kernel_rfl) (by kernel_rfl) (by kernel_rfl) (fun _ _ _ h => h) (Or.inl ⟨by rfl, ?_⟩) HSd.out ?_
      rotate_left
      · (intro wq hSw; obtain ⟨q0, q1, q2, q3, q4, q5, q6⟩ := hSw; go_simp; all_goals (first | (with_reducible rfl) | (rw [if_neg (by first | omega | (simp; omega) | (simp only [List.length_append, List.length_cons, List.length_nil]; omega))])))
      simp only [List.getElem_toArray, List.getElem_cons_succ, List.getElem_cons_zero, Act.put, List.setIfInBounds_toArray, List.set_cons_zero, List.set_cons_succ]
      refine wpT_take (i := 6) (v := ?_) rfl (by kernel_rfl) (by kernel_rfl) (by kernel_rfl) (by kernel_rfl) (fun _ _ _ h => h) (Or.inl ⟨by rfl, ?_⟩) HSd.out ?_
      rotate_left
      · (intro wq hSw; obtain ⟨q0, q1, q2, q3, q4, q5, q6⟩ := hSw; go_simp; all_goals (first | (with_reducible rfl) | (rw [if_neg (by first | omega | (simp; omega) | (simp only [List.length_append, List.length_cons, List.length_nil]; omega))])))
      simp only [List.getElem_toArray, List.getElem_cons_succ, List.getElem_cons_zero, Act.put, List.setIfInBounds_toArray, List.set_cons_zero, List.set_cons_succ]
      refine wpT_take (i := 7) (v := ?_) rfl (by kernel_rfl) (by kernel_rfl) (by kernel_rfl) (by kernel_rfl) (fun _ _ _ h => h) (Or.inl ⟨by rfl, ?_⟩) HSd.out ?_
      rotate_left
      · (intro wq hSw; obtain ⟨q0, q1, q2, q3, q4, q5, q6⟩ := hSw; go_simp; all_goals (first | (with_reducible rfl) | (rw [if_neg (by first | omega | (simp; omega) | (simp only [List.length_append, List.length_cons, List.length_nil]; omega))])))
      simp only [List.getElem_toArray, List.getElem_cons_succ, List.getElem_cons_zero, Act.put, List.setIfInBounds_toArray, List.set_cons_zero, List.set_cons_succ]
      refine wpT_one (i := 8) rfl (by kernel_rfl) fun K hK => ?_
      go_simp
      have hcall := ih c (.agg #[.int .i64 c.kind, .int .i64 c.sort, .string ⟨c.name.toArray⟩, .slice A1 n1 p1, .slice A2 n2 p2]) wa.drew hcm.1 hcm.2.1 (((isTy_of HL'.out HK'.out).keep hba).keep (Below.refl wa.heap.size wa).drew) hcm.2.2 ((((HSW.out.keep hbW).keep hbr).keep hba).keep (Below.refl wa.heap.size wa).drew)
      unfold TextSays at hcall
      refine hcall.mono ?_; clear hcall; rw [HT.out]; rintro e w1 ⟨rfl, hq⟩
      have hba1 : Below wa.heap.size wa w1 := chain (Below.refl wa.heap.size wa).drew hq
      have hb1 : Below wr.heap.size wr w1 := chain hba hba1
      have hs1 := hb1.size
      have hs2 := hba1.size
      clear hq
      refine hK.out _ _ (fun _ => HSB.out _ (Same.below hba1)) ?_
      clear hK K
      try simp only [List.getElem_toArray, List.getElem_cons_succ, List.getElem_cons_zero, Act.put, List.setIfInBounds_toArray, List.set_cons_zero, List.set_cons_succ]
      refine wpT_take (i := 9) (v := ?_) rfl (by kernel_rfl) (by kernel_rfl) (by kernel_rfl) (by kernel_rfl) (fun _ _ _ h => h) (Or.inl ⟨by rfl, ?_⟩) (HSB.out _ (Same.below hba1)) ?_
      rotate_left
      · (intro wq hSw; obtain ⟨q0, q1, q2, q3, q4, q5, q6⟩ := hSw; go_simp; all_goals (first | (with_reducible rfl) | (rw [if_neg (by first | omega | (simp; omega) | (simp only [List.length_append, List.length_cons, List.length_nil]; omega))])))
      simp only [List.getElem_toArray, List.getElem_cons_succ, List.getElem_cons_zero, Act.put, List.setIfInBounds_toArray, List.set_cons_zero, List.set_cons_succ]
      refine wpT_one (i := 10) rfl (by kernel_rfl) fun K hK => ?_
      go_simp
      have hsA := Below.trans hba1 ((Below.refl _ w1).alloc hs2 (.cells #[.string ⟨(l ++ 58 :: T).toArray⟩] 9))
      have hbA : Below N wr (w1.alloc (.cells #[.string ⟨(l ++ 58 :: T).toArray⟩] 9)) := (hb1.mono hNr).alloc (by omega) _
      refine hK.out _ _ (fun _ => HSB.out _ (Same.below hsA)) ?_
      clear hK K
      try simp only [List.getElem_toArray, List.getElem_cons_succ, List.getElem_cons_zero, Act.put, List.setIfInBounds_toArray, List.set_cons_zero, List.set_cons_succ]
      refine wpT_one (i := 11) rfl (by kernel_rfl) fun K hK => ?_
      refine step_app rt_strs rfl (.tmp 95) (.tmp 105) rfl N (.slice Av k capv) k _ rfl ((own_keep hown hb1 (Nat.le_refl _)).alloc _) ⟨w1.heap.size, 0, none⟩ 1 1 [.string ⟨(l ++ 58 :: T).toArray⟩] rfl rfl (cell_one_new _ _ _) (by simp [Value.oneCell']) (by unfold maxLen; omega) (by omega) (by rw [World.size_alloc]; omega) (fun v' w3 n1' n2' n3' n4' => ?_)
      obtain ⟨Aw, capw, rfl⟩ := own_form n1'
      have hb3 := hbA.trans n4'
      refine hK.out _ _ (fun _ => HSB.out _ (Same.trans (Same.below hsA) hsA.size (Same.grown n2' hne))) ?_
      clear hK K
      try simp only [List.getElem_toArray, List.getElem_cons_succ, List.getElem_cons_zero, Act.put, List.setIfInBounds_toArray, List.set_cons_zero, List.set_cons_succ]
      refine wpT_one (i := 12) rfl (by kernel_rfl) fun K hK => ?_
      go_simp
      refine hK.out _ _ (fun h => absurd h (by decide)) ?_
      clear hK K
      try simp only [List.getElem_toArray, List.getElem_cons_succ, List.getElem_cons_zero, Act.put, List.setIfInBounds_toArray, List.set_cons_zero, List.set_cons_succ]
      refine wpT_done (by kernel_rfl) ?_
      have hown3 : w3.ownsRow N 9 1 (.slice Aw (k + 1) capw) (k + 1) ((P.take (k + 1)).map fun s => .string ⟨s.toArray⟩) := by
        rw [List.take_add_one, HPR.out]
        simpa using n1'
      have hbN3 := hbN.trans hb3
      clear HSB HSd n1' n2' n3' n4' hb3
      go_wp2_with fail
      go_roundw
      case rel => exact ⟨k + 1, by omega, by go_num, hown3, hbN3⟩
      case measure => simp [intOf]; omega
    · have hkL : k = L := by omega
      subst hkL
      clear hlt
      have htk : P.take k = P := List.take_of_length_le (by rw [HL3.out]; exact Nat.le_refl _)
      rw [htk] at hown
      have hcs := fun g => hown.cells (g := g)
      rcases id hown.2 with ⟨e, h0⟩ | ⟨g, cap', cur, e, hg, _, hn, _⟩
      · omega
      · injection e with e1 e2 e3
        subst e1 e3
        have hcells : ∀ (j : Nat) x, (P.map fun s => (⟨s.toArray⟩ : ByteArray))[j]? = some x → wr.cell? ⟨g, 0 + j, none⟩ = some (.string x) := fun j x hx => by
          rw [List.getElem?_map] at hx
          obtain ⟨s, hs, rfl⟩ := Option.map_eq_some_iff.1 hx
          have := hcs g rfl j (.string ⟨s.toArray⟩) (by rw [List.getElem?_map, hs]; rfl)
          rw [Go.WideShapes.add_plain] at this
          exact this
        have hgl : g < wr.heap.size := (hown.lt g rfl).2
        have hmm : (P.map fun s => (⟨s.toArray⟩ : ByteArray)).map (·.data.toList) = P := by rw [List.map_map]; exact (List.map_congr_left (fun s _ => rfl)).trans (List.map_id P)
        have hjoin := Tryd.strings_Join g 0 capv (P.map fun s => ⟨s.toArray⟩) ⟨#[44]⟩ wr hcells hgl (by rw [List.length_map, HL3.out]; omega) (by rw [List.length_map, HL3.out]; exact hn) (by rw [hmm]; show (Lib.join P [44]).length ≤ _; rw [join_eq]; omega)
        rw [hmm, List.length_map, HL3.out] at hjoin
        have hj2 : Lib.join P (⟨#[44]⟩ : ByteArray).data.toList = joined P := join_eq P
        rw [hj2] at hjoin
        obtain ⟨J, hJ⟩ : ∃ x, joined P = x := ⟨_, rfl⟩
        rw [hJ] at hjoin hjl
        have HJ := Lib.hid hJ
        have HJN := Lib.hid hjoin
        clear hjoin hJ hj2 hcells hcs hown
        go_wp2_with fail
        refine HJN.out.mono ?_; rintro e w1 ⟨rfl, hb1⟩
        go_wp2_with fail
        go_ret
        exact ⟨by rw [HJ.out]; simp, chain hbW (chain hbr hb1)⟩

theorem write_any : ∀ (m : Nat) (t : Ty) (v : Value) (w : World), parts t ≤ m → parts t ≤ 60 → IsTy w v t → Good t → Sorts w → TextSays 115 t v w := by
  intro m
  induction m with
  | zero => intro t v w h; cases t; simp only [parts] at h; omega
  | succ m ih =>
  intro t v w hm h60 hv hg hsw
  obtain ⟨k, s, n, ls, ks⟩ := t
  have hsh := shape_of hg.shape
  have hkids := hg.kid
  simp only [Ty.kind, Ty.sort, Ty.name, Ty.labels, Ty.kids] at hsh hkids
  simp only [parts] at hm h60
  have hp : ∀ c ∈ ks, parts c ≤ m ∧ parts c ≤ 60 ∧ Good c := fun c hc => by
    have := parts_at hc
    exact ⟨by omega, by omega, hkids c hc⟩
  obtain ⟨kl, hkl⟩ : ∃ x, ks.length = x := ⟨_, rfl⟩
  rw [hkl] at hsh
  cases hsh with
  | fin =>
    obtain rfl := List.eq_nil_of_length_eq_zero hkl
    exact write_1 m ih v w hv hsw
  | value k s hk h1 h3 =>
    obtain ⟨c, rfl⟩ : ∃ c, ks = [c] := by match ks, hkl with | [c], _ => exact ⟨c, rfl⟩
    obtain ⟨a1, a2, a3⟩ := hp c (by simp)
    obtain ⟨n, rfl⟩ : ∃ n : Nat, s = n := ⟨s.toNat, by omega⟩
    rcases hk with rfl | rfl
    · exact write_2 m ih n c v w a1 a2 a3 hv hsw (by omega) (by omega)
    · exact write_3 m ih n c v w a1 a2 a3 hv hsw (by omega) (by omega)
  | channel k hk =>
    obtain ⟨c, d, rfl⟩ : ∃ c d, ks = [c, d] := by match ks, hkl with | [c, d], _ => exact ⟨c, d, rfl⟩
    obtain ⟨a1, a2, a3⟩ := hp c (by simp)
    obtain ⟨b1, b2, b3⟩ := hp d (by simp)
    rcases hk with rfl | rfl
    · exact write_4 m ih c d v w a1 a2 a3 b1 b2 b3 hv hsw
    · exact write_5 m ih c d v w a1 a2 a3 b1 b2 b3 hv hsw
  | choice k hk ls h =>
    obtain ⟨h1, h6, h8⟩ := labelsOk_len h
    rcases hk with rfl | rfl
    · exact write_6 m ih ls ks v w hp h6 h1 h8 hkl hv hsw
    · exact write_7 m ih ls ks v w hp h6 h1 h8 hkl hv hsw
  | loop n h =>
    obtain ⟨c, rfl⟩ : ∃ c, ks = [c] := by match ks, hkl with | [c], _ => exact ⟨c, rfl⟩
    obtain ⟨a1, a2, a3⟩ := hp c (by simp)
    exact write_8 m ih n c v w a1 a2 a3 hv hsw (isVar_len h).2
  | var n h =>
    obtain rfl := List.eq_nil_of_length_eq_zero hkl
    exact write_9 m ih n v w hv hsw
end Go.Proofs.YtcacembpegoghaaDoor
