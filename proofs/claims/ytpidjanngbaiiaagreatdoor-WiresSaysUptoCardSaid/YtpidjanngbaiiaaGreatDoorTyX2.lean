/-
  Texts of choices: the reference's TypeText, whole.
-/
import Derived.Test.YtpidjanngbaiiaaGreatDoorM16
namespace Go.Proofs.YtpidjanngbaiiaaGreatDoor
open Go.RowKit Go.Proofs
set_option maxRecDepth 100000

def grow (sg : UInt8) (P : List Str) (k : Nat) : Str := if k = 0 then [sg] else [sg, 123] ++ joined (P.take k)
theorem grow_step {sg : UInt8} {P : List Str} {k : Nat} {x : Str} (h : P[k]? = some x) : grow sg P (k + 1) = grow sg P k ++ (if k = 0 then [123] else [44]) ++ x := by
 have hk : k < P.length := (List.getElem?_eq_some_iff.1 h).1
 unfold grow
 rw [if_neg (by omega), List.take_add_one, h]
 by_cases h0 : k = 0
 ·subst h0; simp [joined]
 ·rw [if_neg h0, if_neg h0]
  have hne : P.take k ≠ [] := by
   intro e
   rcases List.take_eq_nil_iff.1 e with e | e
   ·exact h0 e
   ·rw [e] at hk; simp at hk
  show [sg, 123] ++ joined (P.take k ++ [x]) = _
  rw [joined_snoc _ _ hne]
  simp
theorem grow_len {sg : UInt8} {P : List Str} (hP : ∀ x ∈ P, x.length ≤ 6009) : ∀ {k : Nat}, k ≤ P.length → (grow sg P k).length ≤ 2 + 6010 * k := by
 intro k
 induction k with
 | zero => intro _; simp [grow]
 | succ k ih =>
  intro hk
  have h : P[k]? = some P[k] := List.getElem?_eq_getElem (by omega)
  rw [grow_step h]
  have h1 := ih (by omega)
  have h2 := hP P[k] (List.getElem_mem (by omega))
  have h3 : (if k = 0 then ([123] : Str) else [44]).length = 1 := by split <;> rfl
  simp only [List.length_append, h3]
  omega
theorem pairs_at : ∀ {ls ts : List Str} {k : Nat} {l t : Str}, ls[k]? = some l → ts[k]? = some t → (pairs ls ts)[k]? = some (l ++ [58] ++ t)
 | [], _, _, _, _, h, _ => by simp at h
 | _ :: _, [], _, _, _, _, h => by simp at h
 | a :: ls, b :: ts, 0, l, t, h, h' => by simp at h h'; subst h h'; rfl
 | a :: ls, b :: ts, k + 1, l, t, h, h' => by simp only [List.getElem?_cons_succ] at h h'; simp only [pairs, List.getElem?_cons_succ]; exact pairs_at h h'
theorem pairs_length : ∀ {ls ts : List Str}, ls.length = ts.length → (pairs ls ts).length = ls.length
 | [], _, _ => rfl
 | a :: ls, [], h => by simp at h
 | a :: ls, b :: ts, h => by simp only [pairs, List.length_cons]; rw [pairs_length (by simpa using h)]
theorem pairs_le : ∀ {ls ts : List Str}, (∀ l ∈ ls, l.length ≤ 8) → (∀ t ∈ ts, t.length ≤ 6000) → ∀ x ∈ pairs ls ts, x.length ≤ 6009
 | [], _, _, _ => by simp [pairs]
 | _ :: _, [], _, _ => by simp [pairs]
 | a :: ls, b :: ts, h, h' => by
  intro x hx
  simp only [pairs] at hx
  rcases List.mem_cons.1 hx with rfl | hx
  ·have h1 := h a (by simp)
   have h2 := h' b (by simp)
   simp only [List.length_append, List.length_cons, List.length_nil]; omega
  ·exact pairs_le (fun l hl => h l (by simp [hl])) (fun t ht => h' t (by simp [ht])) x hx
theorem txts_mem : ∀ {ks : List Ty} {x : Str}, x ∈ txts ks → ∃ c ∈ ks, txt c = x
 | [], x, h => by simp [txts] at h
 | k :: r, x, h => by
  simp only [txts] at h
  rcases List.mem_cons.1 h with rfl | h
  ·exact ⟨k, by simp, rfl⟩
  ·obtain ⟨c, hc, e⟩ := txts_mem h
   exact ⟨c, by simp [hc], e⟩

set_option maxHeartbeats 4000000 in
theorem text_6 (m : Nat) (ih : ∀ (t : Ty) (v : Value) (w : World), parts t ≤ m → parts t ≤ 60 → IsTy w v t → Good t → TextSays 28 t v w)
  (ls : List Str) (ks : List Ty) (v : Value) (w : World) (hks : ∀ c ∈ ks, parts c ≤ m ∧ parts c ≤ 60 ∧ Good c) (hl6 : ls.length ≤ 6) (hl1 : 1 ≤ ls.length) (hls : ∀ l ∈ ls, l.length ≤ 8) (hlen : ks.length = ls.length) (hv : IsTy w v (.mk 6 0 [] ls ks)) : TextSays 28 (.mk 6 0 [] ls ks) v w := by
 unfold TextSays
 obtain ⟨lv, kv, rfl, hs1, hs2⟩ := hv
 simp only [Ty.kind, Ty.sort, Ty.name, Ty.labels, Ty.kids] at hs1 hs2 ⊢
 have HLS := Lib.hid hs1
 obtain ⟨A0, p0, rfl, -, -⟩ := hs1
 have HK := Lib.hid hs2
 obtain ⟨A, cap, rfl, -, -⟩ := hs2
 obtain ⟨P, hP⟩ : ∃ x, pairs ls (txts ks) = x := ⟨_, rfl⟩
 have hPl : P.length = ls.length := by rw [← hP, pairs_length (by rw [txts_length, hlen])]
 have hPx : ∀ x ∈ P, x.length ≤ 6009 := by
  rw [← hP]
  refine pairs_le hls fun t ht => ?_
  obtain ⟨c, hc, rfl⟩ := txts_mem ht
  have h1 := txt_len c (hks c hc).2.2
  have h2 := (hks c hc).2.1
  omega
 have hans : txt (.mk 6 0 [] ls ks) = grow 43 P ls.length ++ [125] := by
  unfold grow
  rw [if_neg (by omega), List.take_of_length_le (by omega), ← hP]
  simp [txt, txtOf]
 rw [hans]
 clear hans
 have HPX := Lib.hid hPx; have HPP := Lib.hid hP; have HKS := Lib.hid hks; have HLE := Lib.hid hls
 obtain ⟨L, hL⟩ : ∃ x, ls.length = x := ⟨_, rfl⟩
 have HL1 := Lib.hid hL; have HL2 := Lib.hid (hlen.trans hL); have HL3 := Lib.hid (hPl.trans hL)
 rw [hlen] at HK ⊢
 rw [hL] at HK HLS hl6 hl1 ⊢
 clear hL hlen hPl hPx hP hks hls
 go_enter Tryz.func28, Tryz.ntmps28
 go_wp2_with fail
 go_loopw [3, 4] (fun s i wr => ∃ k : Nat, k ≤ L ∧ i = .int .i64 k ∧ s = .string ⟨(grow 43 P k).toArray⟩ ∧ wr.cell? ⟨w.heap.size, 3, none⟩ = some (.slice A0 L p0) ∧ wr.cell? ⟨w.heap.size, 4, none⟩ = some (.slice A L cap) ∧ Below w.heap.size w wr) (fun _ i _ => L - (intOf i).toNat)
 case atStart => exact ⟨0, by omega, rfl, rfl, by simp [go_sem], by simp [go_sem], by go_grown⟩
 case round =>
  obtain ⟨k, hk, rfl, rfl, x3, x4, hb⟩ := hrel
  have hgl : (grow 43 P k).length ≤ 40000 := by have := grow_len (sg := 43) HPX.out (k := k) (by rw [HL3.out]; exact hk); omega
  by_cases hlt : k < L
  ·obtain ⟨c, hc⟩ : ∃ x, ks[k]? = some x := ⟨_, List.getElem?_eq_getElem (by rw [HL2.out]; exact hlt)⟩
   obtain ⟨l, hl⟩ : ∃ x, ls[k]? = some x := ⟨_, List.getElem?_eq_getElem (by rw [HL1.out]; exact hlt)⟩
   have HC := Lib.hid hc; have HLk := Lib.hid hl
   obtain ⟨-, -, b, off, A1, n1, p1, A2, n2, p2, rfl, c0, c1, c2, c3, c4, hl', hk'⟩ := kid_at (HK.out.keep hb) hc
   obtain ⟨lA, lp, el, hlc, hlr⟩ := HLS.out.keep hb
   obtain ⟨lb, loff, rfl, hlrow⟩ := hlr (by rw [HL1.out]; omega)
   injection el with el1 el2 el3
   subst el1 el3
   clear el2
   have clab := hlrow k l hl
   have HL' := Lib.hid hl'; have HK' := Lib.hid hk'; clear hl' hk' hc hl
   have hcm := HKS.out c (mem_of_at HC.out)
   have hll := HLE.out l (mem_of_at HLk.out)
   have htl : (txt c).length ≤ 6000 := by have h1 := txt_len c hcm.2.2; have h2 := hcm.2.1; omega
   have hnext := grow_step (sg := 43) (P := P) (k := k) (by rw [← HPP.out]; exact pairs_at HLk.out (txts_at HC.out))
   obtain ⟨T, hT⟩ : ∃ y, txt c = y := ⟨_, rfl⟩
   have HT := Lib.hid hT
   rw [hT] at htl hnext
   have HNX := Lib.hid hnext
   clear hT hnext
   have hS : ∀ w' : World, Below wr.heap.size wr w' → (fun w' : World => w'.cell? ⟨w.heap.size, 3, none⟩ = some (.slice (some ⟨lb, loff, none⟩) L p0) ∧ w'.cell? ⟨w.heap.size, 4, none⟩ = some (.slice (some ⟨b, off, none⟩) L cap) ∧ w'.cell? ⟨lb, loff + k, none⟩ = some (.string ⟨l.toArray⟩) ∧ w'.cell? ⟨b, off + k * 5, none⟩ = some (.int .i64 c.kind) ∧ w'.cell? ⟨b, off + k * 5 + 1, none⟩ = some (.int .i64 c.sort) ∧ w'.cell? ⟨b, off + k * 5 + 2, none⟩ = some (.string ⟨c.name.toArray⟩) ∧ w'.cell? ⟨b, off + k * 5 + 3, none⟩ = some (.slice A1 n1 p1) ∧ w'.cell? ⟨b, off + k * 5 + 4, none⟩ = some (.slice A2 n2 p2)) w' := fun w' h => ⟨cell_keep x3 h, cell_keep x4 h, cell_keep clab h, cell_keep c0 h, cell_keep c1 h, cell_keep c2 h, cell_keep c3 h, cell_keep c4 h⟩
   have HSd := Lib.hid (hS wr.drew (Below.refl _ _).drew)
   have HSB := Lib.hid hS; clear hS
   obtain ⟨G, hG⟩ : ∃ x, grow 43 P k = x := ⟨_, rfl⟩
   rw [hG] at hgl
   have HG := Lib.hid hG
   rw [hG]
   clear hG
   by_cases h0 : k = 0
   ·have hk0 : ((k : Int) == 0) = true := by simp [h0]
    have HK0 := Lib.hid h0
    clear h0
    go_wp2_with fail
    refine wp_region_T 15 (fun w' : World => w'.cell? ⟨w.heap.size, 3, none⟩ = some (.slice (some ⟨lb, loff, none⟩) L p0) ∧ w'.cell? ⟨w.heap.size, 4, none⟩ = some (.slice (some ⟨b, off, none⟩) L cap) ∧ w'.cell? ⟨lb, loff + k, none⟩ = some (.string ⟨l.toArray⟩) ∧ w'.cell? ⟨b, off + k * 5, none⟩ = some (.int .i64 c.kind) ∧ w'.cell? ⟨b, off + k * 5 + 1, none⟩ = some (.int .i64 c.sort) ∧ w'.cell? ⟨b, off + k * 5 + 2, none⟩ = some (.string ⟨c.name.toArray⟩) ∧ w'.cell? ⟨b, off + k * 5 + 3, none⟩ = some (.slice A1 n1 p1) ∧ w'.cell? ⟨b, off + k * 5 + 4, none⟩ = some (.slice A2 n2 p2)) (by kernel_rfl) ?_
    refine zT 0 ?_ rfl (Or.inl ⟨by rfl, ?_⟩) HSd.out ?_
    rotate_left
    ·(intro wq hSw; obtain ⟨_,_,_,_,_,_,_,_⟩ := hSw; go_simp; all_goals (first | (with_reducible rfl) | (rw [zI])))
    simp only [zA, zB, zC, Act.put, zD, zE, zF]
    refine zT 1 ?_ rfl (Or.inl ⟨by rfl, ?_⟩) HSd.out ?_
    rotate_left
    ·(intro wq hSw; obtain ⟨_,_,_,_,_,_,_,_⟩ := hSw; go_simp; all_goals (first | (with_reducible rfl) | (rw [zI])))
    simp only [zA, zB, zC, Act.put, zD, zE, zF]
    refine zT 2 ?_ rfl (Or.inl ⟨by rfl, ?_⟩) HSd.out ?_
    rotate_left
    ·(intro wq hSw; obtain ⟨_,_,_,_,_,_,_,_⟩ := hSw; go_simp; all_goals (first | (with_reducible rfl) | (rw [zI])))
    simp only [zA, zB, zC, Act.put, zD, zE, zF]
    refine zT 3 ?_ rfl (Or.inl ⟨by rfl, ?_⟩) HSd.out ?_
    rotate_left
    ·(intro wq hSw; obtain ⟨_,_,_,_,_,_,_,_⟩ := hSw; go_simp; all_goals (first | (with_reducible rfl) | (rw [zI])))
    simp only [zA, zB, zC, Act.put, zD, zE, zF]
    refine zT 4 ?_ rfl (Or.inl ⟨by rfl, ?_⟩) HSd.out ?_
    rotate_left
    ·(intro wq hSw; obtain ⟨_,_,_,_,_,_,_,_⟩ := hSw; go_simp; all_goals (first | (with_reducible rfl) | (rw [zI])))
    simp only [zA, zB, zC, Act.put, zD, zE, zF]
    refine zT 5 ?_ rfl (Or.inl ⟨by rfl, ?_⟩) HSd.out ?_
    rotate_left
    ·(intro wq hSw; obtain ⟨_,_,_,_,_,_,_,_⟩ := hSw; go_simp; all_goals (first | (with_reducible rfl) | (rw [zI])))
    simp only [zA, zB, zC, Act.put, zD, zE, zF]
    refine zT 6 ?_ rfl (Or.inl ⟨by rfl, ?_⟩) HSd.out ?_
    rotate_left
    ·(intro wq hSw; obtain ⟨_,_,_,_,_,_,_,_⟩ := hSw; go_simp; all_goals (first | (with_reducible rfl) | (rw [zI])))
    simp only [zA, zB, zC, Act.put, zD, zE, zF]
    refine zT 7 ?_ rfl (Or.inl ⟨by rfl, ?_⟩) HSd.out ?_
    rotate_left
    ·(intro wq hSw; obtain ⟨_,_,_,_,_,_,_,_⟩ := hSw; go_simp; all_goals (first | (with_reducible rfl) | (rw [zI])))
    simp only [zA, zB, zC, Act.put, zD, zE, zF]
    refine zT 8 ?_ rfl (Or.inl ⟨by rfl, ?_⟩) HSd.out ?_
    rotate_left
    ·(intro wq hSw; obtain ⟨_,_,_,_,_,_,_,_⟩ := hSw; go_simp; all_goals (first | (with_reducible rfl) | (rw [zI])))
    simp only [zA, zB, zC, Act.put, zD, zE, zF]
    refine zT 9 ?_ rfl (Or.inl ⟨by rfl, ?_⟩) HSd.out ?_
    rotate_left
    ·(intro wq hSw; obtain ⟨_,_,_,_,_,_,_,_⟩ := hSw; go_simp; all_goals (first | (with_reducible rfl) | (rw [zI])))
    simp only [zA, zB, zC, Act.put, zD, zE, zF]
    refine zT 10 ?_ rfl (Or.inl ⟨by rfl, ?_⟩) HSd.out ?_
    rotate_left
    ·(intro wq hSw; obtain ⟨_,_,_,_,_,_,_,_⟩ := hSw; go_simp; all_goals (first | (with_reducible rfl) | (rw [zI])))
    simp only [zA, zB, zC, Act.put, zD, zE, zF]
    refine zT 11 ?_ rfl (Or.inl ⟨by rfl, ?_⟩) HSd.out ?_
    rotate_left
    ·(intro wq hSw; obtain ⟨_,_,_,_,_,_,_,_⟩ := hSw; go_simp; all_goals (first | (with_reducible rfl) | (rw [zI])))
    simp only [zA, zB, zC, Act.put, zD, zE, zF]
    refine zO 12 fun K hK => ?_
    go_simp
    have hcall := ih c (.agg #[.int .i64 c.kind, .int .i64 c.sort, .string ⟨c.name.toArray⟩, .slice A1 n1 p1, .slice A2 n2 p2]) wr.drew hcm.1 hcm.2.1 ((isTy_of HL'.out HK'.out).keep (Below.refl wr.heap.size wr).drew) hcm.2.2
    unfold TextSays at hcall
    refine hcall.mono ?_; clear hcall; rw [HT.out]; rintro e w1 ⟨rfl, hq⟩
    have hb1 : Below wr.heap.size wr w1 := chain (Below.refl wr.heap.size wr).drew hq
    clear hq
    refine hK.out _ _ (fun _ => HSB.out _ hb1) ?_
    clear hK K
    try simp only [zA, zB, zC, Act.put, zD, zE, zF]
    refine zT 13 ?_ rfl (Or.inl ⟨by rfl, ?_⟩) (HSB.out _ hb1) ?_
    rotate_left
    ·(intro wq hSw; obtain ⟨_,_,_,_,_,_,_,_⟩ := hSw; go_simp; all_goals (first | (with_reducible rfl) | (rw [zI])))
    simp only [zA, zB, zC, Act.put, zD, zE, zF]
    refine zT 14 ?_ rfl (Or.inl ⟨by rfl, ?_⟩) (HSB.out _ hb1) ?_
    rotate_left
    ·(intro wq hSw; obtain ⟨_,_,_,_,_,_,_,_⟩ := hSw; go_simp; all_goals (first | (with_reducible rfl) | (rw [zI])))
    simp only [zA, zB, zC, Act.put, zD, zE, zF]
    refine zO 15 fun K hK => ?_
    go_simp
    refine hK.out _ _ (fun h => absurd h (by decide)) ?_
    clear hK K
    try simp only [zA, zB, zC, Act.put, zD, zE, zF]
    refine wpT_done (by kernel_rfl) ?_
    go_wp2_with fail
    go_roundw
    case rel =>
     refine ⟨k + 1, by omega, by go_num, ?_, cell_keep x3 hb1, cell_keep x4 hb1, chain hb hb1⟩
     rw [HNX.out, HG.out]
     simp [HK0.out]
    case measure => simp [intOf]; omega
   ·have hk0 : ((k : Int) == 0) = false := by simp; omega
    have HK0 := Lib.hid h0
    clear h0
    go_wp2_with fail
    refine wp_region_T 15 (fun w' : World => w'.cell? ⟨w.heap.size, 3, none⟩ = some (.slice (some ⟨lb, loff, none⟩) L p0) ∧ w'.cell? ⟨w.heap.size, 4, none⟩ = some (.slice (some ⟨b, off, none⟩) L cap) ∧ w'.cell? ⟨lb, loff + k, none⟩ = some (.string ⟨l.toArray⟩) ∧ w'.cell? ⟨b, off + k * 5, none⟩ = some (.int .i64 c.kind) ∧ w'.cell? ⟨b, off + k * 5 + 1, none⟩ = some (.int .i64 c.sort) ∧ w'.cell? ⟨b, off + k * 5 + 2, none⟩ = some (.string ⟨c.name.toArray⟩) ∧ w'.cell? ⟨b, off + k * 5 + 3, none⟩ = some (.slice A1 n1 p1) ∧ w'.cell? ⟨b, off + k * 5 + 4, none⟩ = some (.slice A2 n2 p2)) (by kernel_rfl) ?_
    refine zT 0 ?_ rfl (Or.inl ⟨by rfl, ?_⟩) HSd.out ?_
    rotate_left
    ·(intro wq hSw; obtain ⟨_,_,_,_,_,_,_,_⟩ := hSw; go_simp; all_goals (first | (with_reducible rfl) | (rw [zI])))
    simp only [zA, zB, zC, Act.put, zD, zE, zF]
    refine zT 1 ?_ rfl (Or.inl ⟨by rfl, ?_⟩) HSd.out ?_
    rotate_left
    ·(intro wq hSw; obtain ⟨_,_,_,_,_,_,_,_⟩ := hSw; go_simp; all_goals (first | (with_reducible rfl) | (rw [zI])))
    simp only [zA, zB, zC, Act.put, zD, zE, zF]
    refine zT 2 ?_ rfl (Or.inl ⟨by rfl, ?_⟩) HSd.out ?_
    rotate_left
    ·(intro wq hSw; obtain ⟨_,_,_,_,_,_,_,_⟩ := hSw; go_simp; all_goals (first | (with_reducible rfl) | (rw [zI])))
    simp only [zA, zB, zC, Act.put, zD, zE, zF]
    refine zT 3 ?_ rfl (Or.inl ⟨by rfl, ?_⟩) HSd.out ?_
    rotate_left
    ·(intro wq hSw; obtain ⟨_,_,_,_,_,_,_,_⟩ := hSw; go_simp; all_goals (first | (with_reducible rfl) | (rw [zI])))
    simp only [zA, zB, zC, Act.put, zD, zE, zF]
    refine zT 4 ?_ rfl (Or.inl ⟨by rfl, ?_⟩) HSd.out ?_
    rotate_left
    ·(intro wq hSw; obtain ⟨_,_,_,_,_,_,_,_⟩ := hSw; go_simp; all_goals (first | (with_reducible rfl) | (rw [zI])))
    simp only [zA, zB, zC, Act.put, zD, zE, zF]
    refine zT 5 ?_ rfl (Or.inl ⟨by rfl, ?_⟩) HSd.out ?_
    rotate_left
    ·(intro wq hSw; obtain ⟨_,_,_,_,_,_,_,_⟩ := hSw; go_simp; all_goals (first | (with_reducible rfl) | (rw [zI])))
    simp only [zA, zB, zC, Act.put, zD, zE, zF]
    refine zT 6 ?_ rfl (Or.inl ⟨by rfl, ?_⟩) HSd.out ?_
    rotate_left
    ·(intro wq hSw; obtain ⟨_,_,_,_,_,_,_,_⟩ := hSw; go_simp; all_goals (first | (with_reducible rfl) | (rw [zI])))
    simp only [zA, zB, zC, Act.put, zD, zE, zF]
    refine zT 7 ?_ rfl (Or.inl ⟨by rfl, ?_⟩) HSd.out ?_
    rotate_left
    ·(intro wq hSw; obtain ⟨_,_,_,_,_,_,_,_⟩ := hSw; go_simp; all_goals (first | (with_reducible rfl) | (rw [zI])))
    simp only [zA, zB, zC, Act.put, zD, zE, zF]
    refine zT 8 ?_ rfl (Or.inl ⟨by rfl, ?_⟩) HSd.out ?_
    rotate_left
    ·(intro wq hSw; obtain ⟨_,_,_,_,_,_,_,_⟩ := hSw; go_simp; all_goals (first | (with_reducible rfl) | (rw [zI])))
    simp only [zA, zB, zC, Act.put, zD, zE, zF]
    refine zT 9 ?_ rfl (Or.inl ⟨by rfl, ?_⟩) HSd.out ?_
    rotate_left
    ·(intro wq hSw; obtain ⟨_,_,_,_,_,_,_,_⟩ := hSw; go_simp; all_goals (first | (with_reducible rfl) | (rw [zI])))
    simp only [zA, zB, zC, Act.put, zD, zE, zF]
    refine zT 10 ?_ rfl (Or.inl ⟨by rfl, ?_⟩) HSd.out ?_
    rotate_left
    ·(intro wq hSw; obtain ⟨_,_,_,_,_,_,_,_⟩ := hSw; go_simp; all_goals (first | (with_reducible rfl) | (rw [zI])))
    simp only [zA, zB, zC, Act.put, zD, zE, zF]
    refine zT 11 ?_ rfl (Or.inl ⟨by rfl, ?_⟩) HSd.out ?_
    rotate_left
    ·(intro wq hSw; obtain ⟨_,_,_,_,_,_,_,_⟩ := hSw; go_simp; all_goals (first | (with_reducible rfl) | (rw [zI])))
    simp only [zA, zB, zC, Act.put, zD, zE, zF]
    refine zO 12 fun K hK => ?_
    go_simp
    have hcall := ih c (.agg #[.int .i64 c.kind, .int .i64 c.sort, .string ⟨c.name.toArray⟩, .slice A1 n1 p1, .slice A2 n2 p2]) wr.drew hcm.1 hcm.2.1 ((isTy_of HL'.out HK'.out).keep (Below.refl wr.heap.size wr).drew) hcm.2.2
    unfold TextSays at hcall
    refine hcall.mono ?_; clear hcall; rw [HT.out]; rintro e w1 ⟨rfl, hq⟩
    have hb1 : Below wr.heap.size wr w1 := chain (Below.refl wr.heap.size wr).drew hq
    clear hq
    refine hK.out _ _ (fun _ => HSB.out _ hb1) ?_
    clear hK K
    try simp only [zA, zB, zC, Act.put, zD, zE, zF]
    refine zT 13 ?_ rfl (Or.inl ⟨by rfl, ?_⟩) (HSB.out _ hb1) ?_
    rotate_left
    ·(intro wq hSw; obtain ⟨_,_,_,_,_,_,_,_⟩ := hSw; go_simp; all_goals (first | (with_reducible rfl) | (rw [zI])))
    simp only [zA, zB, zC, Act.put, zD, zE, zF]
    refine zT 14 ?_ rfl (Or.inl ⟨by rfl, ?_⟩) (HSB.out _ hb1) ?_
    rotate_left
    ·(intro wq hSw; obtain ⟨_,_,_,_,_,_,_,_⟩ := hSw; go_simp; all_goals (first | (with_reducible rfl) | (rw [zI])))
    simp only [zA, zB, zC, Act.put, zD, zE, zF]
    refine zO 15 fun K hK => ?_
    go_simp
    refine hK.out _ _ (fun h => absurd h (by decide)) ?_
    clear hK K
    try simp only [zA, zB, zC, Act.put, zD, zE, zF]
    refine wpT_done (by kernel_rfl) ?_
    go_wp2_with fail
    go_roundw
    case rel =>
     refine ⟨k + 1, by omega, by go_num, ?_, cell_keep x3 hb1, cell_keep x4 hb1, chain hb hb1⟩
     rw [HNX.out, HG.out]
     simp [HK0.out]
    case measure => simp [intOf]; omega
  ·have hkL : k = L := by omega
   subst hkL
   clear hlt
   go_wp2_with fail
   go_ret
   exact ⟨rfl, hb⟩

set_option maxHeartbeats 4000000 in
theorem text_7 (m : Nat) (ih : ∀ (t : Ty) (v : Value) (w : World), parts t ≤ m → parts t ≤ 60 → IsTy w v t → Good t → TextSays 28 t v w)
  (ls : List Str) (ks : List Ty) (v : Value) (w : World) (hks : ∀ c ∈ ks, parts c ≤ m ∧ parts c ≤ 60 ∧ Good c) (hl6 : ls.length ≤ 6) (hl1 : 1 ≤ ls.length) (hls : ∀ l ∈ ls, l.length ≤ 8) (hlen : ks.length = ls.length) (hv : IsTy w v (.mk 7 0 [] ls ks)) : TextSays 28 (.mk 7 0 [] ls ks) v w := by
 unfold TextSays
 obtain ⟨lv, kv, rfl, hs1, hs2⟩ := hv
 simp only [Ty.kind, Ty.sort, Ty.name, Ty.labels, Ty.kids] at hs1 hs2 ⊢
 have HLS := Lib.hid hs1
 obtain ⟨A0, p0, rfl, -, -⟩ := hs1
 have HK := Lib.hid hs2
 obtain ⟨A, cap, rfl, -, -⟩ := hs2
 obtain ⟨P, hP⟩ : ∃ x, pairs ls (txts ks) = x := ⟨_, rfl⟩
 have hPl : P.length = ls.length := by rw [← hP, pairs_length (by rw [txts_length, hlen])]
 have hPx : ∀ x ∈ P, x.length ≤ 6009 := by
  rw [← hP]
  refine pairs_le hls fun t ht => ?_
  obtain ⟨c, hc, rfl⟩ := txts_mem ht
  have h1 := txt_len c (hks c hc).2.2
  have h2 := (hks c hc).2.1
  omega
 have hans : txt (.mk 7 0 [] ls ks) = grow 38 P ls.length ++ [125] := by
  unfold grow
  rw [if_neg (by omega), List.take_of_length_le (by omega), ← hP]
  simp [txt, txtOf]
 rw [hans]
 clear hans
 have HPX := Lib.hid hPx; have HPP := Lib.hid hP; have HKS := Lib.hid hks; have HLE := Lib.hid hls
 obtain ⟨L, hL⟩ : ∃ x, ls.length = x := ⟨_, rfl⟩
 have HL1 := Lib.hid hL; have HL2 := Lib.hid (hlen.trans hL); have HL3 := Lib.hid (hPl.trans hL)
 rw [hlen] at HK ⊢
 rw [hL] at HK HLS hl6 hl1 ⊢
 clear hL hlen hPl hPx hP hks hls
 go_enter Tryz.func28, Tryz.ntmps28
 go_wp2_with fail
 go_loopw [3, 4] (fun s i wr => ∃ k : Nat, k ≤ L ∧ i = .int .i64 k ∧ s = .string ⟨(grow 38 P k).toArray⟩ ∧ wr.cell? ⟨w.heap.size, 3, none⟩ = some (.slice A0 L p0) ∧ wr.cell? ⟨w.heap.size, 4, none⟩ = some (.slice A L cap) ∧ Below w.heap.size w wr) (fun _ i _ => L - (intOf i).toNat)
 case atStart => exact ⟨0, by omega, rfl, rfl, by simp [go_sem], by simp [go_sem], by go_grown⟩
 case round =>
  obtain ⟨k, hk, rfl, rfl, x3, x4, hb⟩ := hrel
  have hgl : (grow 38 P k).length ≤ 40000 := by have := grow_len (sg := 38) HPX.out (k := k) (by rw [HL3.out]; exact hk); omega
  by_cases hlt : k < L
  ·obtain ⟨c, hc⟩ : ∃ x, ks[k]? = some x := ⟨_, List.getElem?_eq_getElem (by rw [HL2.out]; exact hlt)⟩
   obtain ⟨l, hl⟩ : ∃ x, ls[k]? = some x := ⟨_, List.getElem?_eq_getElem (by rw [HL1.out]; exact hlt)⟩
   have HC := Lib.hid hc; have HLk := Lib.hid hl
   obtain ⟨-, -, b, off, A1, n1, p1, A2, n2, p2, rfl, c0, c1, c2, c3, c4, hl', hk'⟩ := kid_at (HK.out.keep hb) hc
   obtain ⟨lA, lp, el, hlc, hlr⟩ := HLS.out.keep hb
   obtain ⟨lb, loff, rfl, hlrow⟩ := hlr (by rw [HL1.out]; omega)
   injection el with el1 el2 el3
   subst el1 el3
   clear el2
   have clab := hlrow k l hl
   have HL' := Lib.hid hl'; have HK' := Lib.hid hk'; clear hl' hk' hc hl
   have hcm := HKS.out c (mem_of_at HC.out)
   have hll := HLE.out l (mem_of_at HLk.out)
   have htl : (txt c).length ≤ 6000 := by have h1 := txt_len c hcm.2.2; have h2 := hcm.2.1; omega
   have hnext := grow_step (sg := 38) (P := P) (k := k) (by rw [← HPP.out]; exact pairs_at HLk.out (txts_at HC.out))
   obtain ⟨T, hT⟩ : ∃ y, txt c = y := ⟨_, rfl⟩
   have HT := Lib.hid hT
   rw [hT] at htl hnext
   have HNX := Lib.hid hnext
   clear hT hnext
   have hS : ∀ w' : World, Below wr.heap.size wr w' → (fun w' : World => w'.cell? ⟨w.heap.size, 3, none⟩ = some (.slice (some ⟨lb, loff, none⟩) L p0) ∧ w'.cell? ⟨w.heap.size, 4, none⟩ = some (.slice (some ⟨b, off, none⟩) L cap) ∧ w'.cell? ⟨lb, loff + k, none⟩ = some (.string ⟨l.toArray⟩) ∧ w'.cell? ⟨b, off + k * 5, none⟩ = some (.int .i64 c.kind) ∧ w'.cell? ⟨b, off + k * 5 + 1, none⟩ = some (.int .i64 c.sort) ∧ w'.cell? ⟨b, off + k * 5 + 2, none⟩ = some (.string ⟨c.name.toArray⟩) ∧ w'.cell? ⟨b, off + k * 5 + 3, none⟩ = some (.slice A1 n1 p1) ∧ w'.cell? ⟨b, off + k * 5 + 4, none⟩ = some (.slice A2 n2 p2)) w' := fun w' h => ⟨cell_keep x3 h, cell_keep x4 h, cell_keep clab h, cell_keep c0 h, cell_keep c1 h, cell_keep c2 h, cell_keep c3 h, cell_keep c4 h⟩
   have HSd := Lib.hid (hS wr.drew (Below.refl _ _).drew)
   have HSB := Lib.hid hS; clear hS
   obtain ⟨G, hG⟩ : ∃ x, grow 38 P k = x := ⟨_, rfl⟩
   rw [hG] at hgl
   have HG := Lib.hid hG
   rw [hG]
   clear hG
   by_cases h0 : k = 0
   ·have hk0 : ((k : Int) == 0) = true := by simp [h0]
    have HK0 := Lib.hid h0
    clear h0
    go_wp2_with fail
    refine wp_region_T 15 (fun w' : World => w'.cell? ⟨w.heap.size, 3, none⟩ = some (.slice (some ⟨lb, loff, none⟩) L p0) ∧ w'.cell? ⟨w.heap.size, 4, none⟩ = some (.slice (some ⟨b, off, none⟩) L cap) ∧ w'.cell? ⟨lb, loff + k, none⟩ = some (.string ⟨l.toArray⟩) ∧ w'.cell? ⟨b, off + k * 5, none⟩ = some (.int .i64 c.kind) ∧ w'.cell? ⟨b, off + k * 5 + 1, none⟩ = some (.int .i64 c.sort) ∧ w'.cell? ⟨b, off + k * 5 + 2, none⟩ = some (.string ⟨c.name.toArray⟩) ∧ w'.cell? ⟨b, off + k * 5 + 3, none⟩ = some (.slice A1 n1 p1) ∧ w'.cell? ⟨b, off + k * 5 + 4, none⟩ = some (.slice A2 n2 p2)) (by kernel_rfl) ?_
    refine zT 0 ?_ rfl (Or.inl ⟨by rfl, ?_⟩) HSd.out ?_
    rotate_left
    ·(intro wq hSw; obtain ⟨_,_,_,_,_,_,_,_⟩ := hSw; go_simp; all_goals (first | (with_reducible rfl) | (rw [zI])))
    simp only [zA, zB, zC, Act.put, zD, zE, zF]
    refine zT 1 ?_ rfl (Or.inl ⟨by rfl, ?_⟩) HSd.out ?_
    rotate_left
    ·(intro wq hSw; obtain ⟨_,_,_,_,_,_,_,_⟩ := hSw; go_simp; all_goals (first | (with_reducible rfl) | (rw [zI])))
    simp only [zA, zB, zC, Act.put, zD, zE, zF]
    refine zT 2 ?_ rfl (Or.inl ⟨by rfl, ?_⟩) HSd.out ?_
    rotate_left
    ·(intro wq hSw; obtain ⟨_,_,_,_,_,_,_,_⟩ := hSw; go_simp; all_goals (first | (with_reducible rfl) | (rw [zI])))
    simp only [zA, zB, zC, Act.put, zD, zE, zF]
    refine zT 3 ?_ rfl (Or.inl ⟨by rfl, ?_⟩) HSd.out ?_
    rotate_left
    ·(intro wq hSw; obtain ⟨_,_,_,_,_,_,_,_⟩ := hSw; go_simp; all_goals (first | (with_reducible rfl) | (rw [zI])))
    simp only [zA, zB, zC, Act.put, zD, zE, zF]
    refine zT 4 ?_ rfl (Or.inl ⟨by rfl, ?_⟩) HSd.out ?_
    rotate_left
    ·(intro wq hSw; obtain ⟨_,_,_,_,_,_,_,_⟩ := hSw; go_simp; all_goals (first | (with_reducible rfl) | (rw [zI])))
    simp only [zA, zB, zC, Act.put, zD, zE, zF]
    refine zT 5 ?_ rfl (Or.inl ⟨by rfl, ?_⟩) HSd.out ?_
    rotate_left
    ·(intro wq hSw; obtain ⟨_,_,_,_,_,_,_,_⟩ := hSw; go_simp; all_goals (first | (with_reducible rfl) | (rw [zI])))
    simp only [zA, zB, zC, Act.put, zD, zE, zF]
    refine zT 6 ?_ rfl (Or.inl ⟨by rfl, ?_⟩) HSd.out ?_
    rotate_left
    ·(intro wq hSw; obtain ⟨_,_,_,_,_,_,_,_⟩ := hSw; go_simp; all_goals (first | (with_reducible rfl) | (rw [zI])))
    simp only [zA, zB, zC, Act.put, zD, zE, zF]
    refine zT 7 ?_ rfl (Or.inl ⟨by rfl, ?_⟩) HSd.out ?_
    rotate_left
    ·(intro wq hSw; obtain ⟨_,_,_,_,_,_,_,_⟩ := hSw; go_simp; all_goals (first | (with_reducible rfl) | (rw [zI])))
    simp only [zA, zB, zC, Act.put, zD, zE, zF]
    refine zT 8 ?_ rfl (Or.inl ⟨by rfl, ?_⟩) HSd.out ?_
    rotate_left
    ·(intro wq hSw; obtain ⟨_,_,_,_,_,_,_,_⟩ := hSw; go_simp; all_goals (first | (with_reducible rfl) | (rw [zI])))
    simp only [zA, zB, zC, Act.put, zD, zE, zF]
    refine zT 9 ?_ rfl (Or.inl ⟨by rfl, ?_⟩) HSd.out ?_
    rotate_left
    ·(intro wq hSw; obtain ⟨_,_,_,_,_,_,_,_⟩ := hSw; go_simp; all_goals (first | (with_reducible rfl) | (rw [zI])))
    simp only [zA, zB, zC, Act.put, zD, zE, zF]
    refine zT 10 ?_ rfl (Or.inl ⟨by rfl, ?_⟩) HSd.out ?_
    rotate_left
    ·(intro wq hSw; obtain ⟨_,_,_,_,_,_,_,_⟩ := hSw; go_simp; all_goals (first | (with_reducible rfl) | (rw [zI])))
    simp only [zA, zB, zC, Act.put, zD, zE, zF]
    refine zT 11 ?_ rfl (Or.inl ⟨by rfl, ?_⟩) HSd.out ?_
    rotate_left
    ·(intro wq hSw; obtain ⟨_,_,_,_,_,_,_,_⟩ := hSw; go_simp; all_goals (first | (with_reducible rfl) | (rw [zI])))
    simp only [zA, zB, zC, Act.put, zD, zE, zF]
    refine zO 12 fun K hK => ?_
    go_simp
    have hcall := ih c (.agg #[.int .i64 c.kind, .int .i64 c.sort, .string ⟨c.name.toArray⟩, .slice A1 n1 p1, .slice A2 n2 p2]) wr.drew hcm.1 hcm.2.1 ((isTy_of HL'.out HK'.out).keep (Below.refl wr.heap.size wr).drew) hcm.2.2
    unfold TextSays at hcall
    refine hcall.mono ?_; clear hcall; rw [HT.out]; rintro e w1 ⟨rfl, hq⟩
    have hb1 : Below wr.heap.size wr w1 := chain (Below.refl wr.heap.size wr).drew hq
    clear hq
    refine hK.out _ _ (fun _ => HSB.out _ hb1) ?_
    clear hK K
    try simp only [zA, zB, zC, Act.put, zD, zE, zF]
    refine zT 13 ?_ rfl (Or.inl ⟨by rfl, ?_⟩) (HSB.out _ hb1) ?_
    rotate_left
    ·(intro wq hSw; obtain ⟨_,_,_,_,_,_,_,_⟩ := hSw; go_simp; all_goals (first | (with_reducible rfl) | (rw [zI])))
    simp only [zA, zB, zC, Act.put, zD, zE, zF]
    refine zT 14 ?_ rfl (Or.inl ⟨by rfl, ?_⟩) (HSB.out _ hb1) ?_
    rotate_left
    ·(intro wq hSw; obtain ⟨_,_,_,_,_,_,_,_⟩ := hSw; go_simp; all_goals (first | (with_reducible rfl) | (rw [zI])))
    simp only [zA, zB, zC, Act.put, zD, zE, zF]
    refine zO 15 fun K hK => ?_
    go_simp
    refine hK.out _ _ (fun h => absurd h (by decide)) ?_
    clear hK K
    try simp only [zA, zB, zC, Act.put, zD, zE, zF]
    refine wpT_done (by kernel_rfl) ?_
    go_wp2_with fail
    go_roundw
    case rel =>
     refine ⟨k + 1, by omega, by go_num, ?_, cell_keep x3 hb1, cell_keep x4 hb1, chain hb hb1⟩
     rw [HNX.out, HG.out]
     simp [HK0.out]
    case measure => simp [intOf]; omega
   ·have hk0 : ((k : Int) == 0) = false := by simp; omega
    have HK0 := Lib.hid h0
    clear h0
    go_wp2_with fail
    refine wp_region_T 15 (fun w' : World => w'.cell? ⟨w.heap.size, 3, none⟩ = some (.slice (some ⟨lb, loff, none⟩) L p0) ∧ w'.cell? ⟨w.heap.size, 4, none⟩ = some (.slice (some ⟨b, off, none⟩) L cap) ∧ w'.cell? ⟨lb, loff + k, none⟩ = some (.string ⟨l.toArray⟩) ∧ w'.cell? ⟨b, off + k * 5, none⟩ = some (.int .i64 c.kind) ∧ w'.cell? ⟨b, off + k * 5 + 1, none⟩ = some (.int .i64 c.sort) ∧ w'.cell? ⟨b, off + k * 5 + 2, none⟩ = some (.string ⟨c.name.toArray⟩) ∧ w'.cell? ⟨b, off + k * 5 + 3, none⟩ = some (.slice A1 n1 p1) ∧ w'.cell? ⟨b, off + k * 5 + 4, none⟩ = some (.slice A2 n2 p2)) (by kernel_rfl) ?_
    refine zT 0 ?_ rfl (Or.inl ⟨by rfl, ?_⟩) HSd.out ?_
    rotate_left
    ·(intro wq hSw; obtain ⟨_,_,_,_,_,_,_,_⟩ := hSw; go_simp; all_goals (first | (with_reducible rfl) | (rw [zI])))
    simp only [zA, zB, zC, Act.put, zD, zE, zF]
    refine zT 1 ?_ rfl (Or.inl ⟨by rfl, ?_⟩) HSd.out ?_
    rotate_left
    ·(intro wq hSw; obtain ⟨_,_,_,_,_,_,_,_⟩ := hSw; go_simp; all_goals (first | (with_reducible rfl) | (rw [zI])))
    simp only [zA, zB, zC, Act.put, zD, zE, zF]
    refine zT 2 ?_ rfl (Or.inl ⟨by rfl, ?_⟩) HSd.out ?_
    rotate_left
    ·(intro wq hSw; obtain ⟨_,_,_,_,_,_,_,_⟩ := hSw; go_simp; all_goals (first | (with_reducible rfl) | (rw [zI])))
    simp only [zA, zB, zC, Act.put, zD, zE, zF]
    refine zT 3 ?_ rfl (Or.inl ⟨by rfl, ?_⟩) HSd.out ?_
    rotate_left
    ·(intro wq hSw; obtain ⟨_,_,_,_,_,_,_,_⟩ := hSw; go_simp; all_goals (first | (with_reducible rfl) | (rw [zI])))
    simp only [zA, zB, zC, Act.put, zD, zE, zF]
    refine zT 4 ?_ rfl (Or.inl ⟨by rfl, ?_⟩) HSd.out ?_
    rotate_left
    ·(intro wq hSw; obtain ⟨_,_,_,_,_,_,_,_⟩ := hSw; go_simp; all_goals (first | (with_reducible rfl) | (rw [zI])))
    simp only [zA, zB, zC, Act.put, zD, zE, zF]
    refine zT 5 ?_ rfl (Or.inl ⟨by rfl, ?_⟩) HSd.out ?_
    rotate_left
    ·(intro wq hSw; obtain ⟨_,_,_,_,_,_,_,_⟩ := hSw; go_simp; all_goals (first | (with_reducible rfl) | (rw [zI])))
    simp only [zA, zB, zC, Act.put, zD, zE, zF]
    refine zT 6 ?_ rfl (Or.inl ⟨by rfl, ?_⟩) HSd.out ?_
    rotate_left
    ·(intro wq hSw; obtain ⟨_,_,_,_,_,_,_,_⟩ := hSw; go_simp; all_goals (first | (with_reducible rfl) | (rw [zI])))
    simp only [zA, zB, zC, Act.put, zD, zE, zF]
    refine zT 7 ?_ rfl (Or.inl ⟨by rfl, ?_⟩) HSd.out ?_
    rotate_left
    ·(intro wq hSw; obtain ⟨_,_,_,_,_,_,_,_⟩ := hSw; go_simp; all_goals (first | (with_reducible rfl) | (rw [zI])))
    simp only [zA, zB, zC, Act.put, zD, zE, zF]
    refine zT 8 ?_ rfl (Or.inl ⟨by rfl, ?_⟩) HSd.out ?_
    rotate_left
    ·(intro wq hSw; obtain ⟨_,_,_,_,_,_,_,_⟩ := hSw; go_simp; all_goals (first | (with_reducible rfl) | (rw [zI])))
    simp only [zA, zB, zC, Act.put, zD, zE, zF]
    refine zT 9 ?_ rfl (Or.inl ⟨by rfl, ?_⟩) HSd.out ?_
    rotate_left
    ·(intro wq hSw; obtain ⟨_,_,_,_,_,_,_,_⟩ := hSw; go_simp; all_goals (first | (with_reducible rfl) | (rw [zI])))
    simp only [zA, zB, zC, Act.put, zD, zE, zF]
    refine zT 10 ?_ rfl (Or.inl ⟨by rfl, ?_⟩) HSd.out ?_
    rotate_left
    ·(intro wq hSw; obtain ⟨_,_,_,_,_,_,_,_⟩ := hSw; go_simp; all_goals (first | (with_reducible rfl) | (rw [zI])))
    simp only [zA, zB, zC, Act.put, zD, zE, zF]
    refine zT 11 ?_ rfl (Or.inl ⟨by rfl, ?_⟩) HSd.out ?_
    rotate_left
    ·(intro wq hSw; obtain ⟨_,_,_,_,_,_,_,_⟩ := hSw; go_simp; all_goals (first | (with_reducible rfl) | (rw [zI])))
    simp only [zA, zB, zC, Act.put, zD, zE, zF]
    refine zO 12 fun K hK => ?_
    go_simp
    have hcall := ih c (.agg #[.int .i64 c.kind, .int .i64 c.sort, .string ⟨c.name.toArray⟩, .slice A1 n1 p1, .slice A2 n2 p2]) wr.drew hcm.1 hcm.2.1 ((isTy_of HL'.out HK'.out).keep (Below.refl wr.heap.size wr).drew) hcm.2.2
    unfold TextSays at hcall
    refine hcall.mono ?_; clear hcall; rw [HT.out]; rintro e w1 ⟨rfl, hq⟩
    have hb1 : Below wr.heap.size wr w1 := chain (Below.refl wr.heap.size wr).drew hq
    clear hq
    refine hK.out _ _ (fun _ => HSB.out _ hb1) ?_
    clear hK K
    try simp only [zA, zB, zC, Act.put, zD, zE, zF]
    refine zT 13 ?_ rfl (Or.inl ⟨by rfl, ?_⟩) (HSB.out _ hb1) ?_
    rotate_left
    ·(intro wq hSw; obtain ⟨_,_,_,_,_,_,_,_⟩ := hSw; go_simp; all_goals (first | (with_reducible rfl) | (rw [zI])))
    simp only [zA, zB, zC, Act.put, zD, zE, zF]
    refine zT 14 ?_ rfl (Or.inl ⟨by rfl, ?_⟩) (HSB.out _ hb1) ?_
    rotate_left
    ·(intro wq hSw; obtain ⟨_,_,_,_,_,_,_,_⟩ := hSw; go_simp; all_goals (first | (with_reducible rfl) | (rw [zI])))
    simp only [zA, zB, zC, Act.put, zD, zE, zF]
    refine zO 15 fun K hK => ?_
    go_simp
    refine hK.out _ _ (fun h => absurd h (by decide)) ?_
    clear hK K
    try simp only [zA, zB, zC, Act.put, zD, zE, zF]
    refine wpT_done (by kernel_rfl) ?_
    go_wp2_with fail
    go_roundw
    case rel =>
     refine ⟨k + 1, by omega, by go_num, ?_, cell_keep x3 hb1, cell_keep x4 hb1, chain hb hb1⟩
     rw [HNX.out, HG.out]
     simp [HK0.out]
    case measure => simp [intOf]; omega
  ·have hkL : k = L := by omega
   subst hkL
   clear hlt
   go_wp2_with fail
   go_ret
   exact ⟨rfl, hb⟩

theorem refText_any : ∀ (m : Nat) (t : Ty) (v : Value) (w : World), parts t ≤ m → parts t ≤ 60 → IsTy w v t → Good t → TextSays 28 t v w := by
 intro m
 induction m with
 | zero => intro t v w h; cases t; simp only [parts] at h; omega
 | succ m ih =>
 intro t v w hm h60 hv hg
 obtain ⟨k, s, n, ls, ks⟩ := t
 have hsh := shape_of hg.shape
 have hkids := hg.kid
 simp only [Ty.kind, Ty.sort, Ty.name, Ty.labels, Ty.kids] at hsh hkids
 simp only [parts] at hm h60
 have hp : ∀ c ∈ ks, parts c ≤ m ∧ parts c ≤ 60 ∧ Good c := fun c hc => by
  have := parts_at hc
  exact ⟨by omega, by omega, hkids c hc⟩
 obtain ⟨kl, hkl⟩ : ∃ x, ks.length = x := ⟨_, rfl⟩
 rw [hkl] at hsh
 cases hsh with
 | fin =>
  obtain rfl := List.eq_nil_of_length_eq_zero hkl
  exact text_1 m ih v w hv
 | value k s hk h1 h3 =>
  obtain ⟨c, rfl⟩ : ∃ c, ks = [c] := by match ks, hkl with | [c], _ => exact ⟨c, rfl⟩
  obtain ⟨a1, a2, a3⟩ := hp c (by simp)
  rcases hk with rfl | rfl
  ·exact text_2 m ih s c v w a1 a2 hv a3 h1 h3
  ·exact text_3 m ih s c v w a1 a2 hv a3 h1 h3
 | channel k hk =>
  obtain ⟨c, d, rfl⟩ : ∃ c d, ks = [c, d] := by match ks, hkl with | [c, d], _ => exact ⟨c, d, rfl⟩
  obtain ⟨a1, a2, a3⟩ := hp c (by simp)
  obtain ⟨b1, b2, b3⟩ := hp d (by simp)
  rcases hk with rfl | rfl
  ·exact text_4 m ih c d v w a1 a2 a3 b1 b2 b3 hv
  ·exact text_5 m ih c d v w a1 a2 a3 b1 b2 b3 hv
 | choice k hk ls h =>
  obtain ⟨h1, h6, h8⟩ := labelsOk_len h
  rcases hk with rfl | rfl
  ·exact text_6 m ih ls ks v w hp h6 h1 h8 hkl hv
  ·exact text_7 m ih ls ks v w hp h6 h1 h8 hkl hv
 | loop n h =>
  obtain ⟨c, rfl⟩ : ∃ c, ks = [c] := by match ks, hkl with | [c], _ => exact ⟨c, rfl⟩
  obtain ⟨a1, a2, a3⟩ := hp c (by simp)
  exact text_8 m ih n c v w a1 a2 a3 hv (isVar_len h).2
 | var n h =>
  obtain rfl := List.eq_nil_of_length_eq_zero hkl
  exact text_9 m ih n v w hv
end Go.Proofs.YtpidjanngbaiiaaGreatDoor
