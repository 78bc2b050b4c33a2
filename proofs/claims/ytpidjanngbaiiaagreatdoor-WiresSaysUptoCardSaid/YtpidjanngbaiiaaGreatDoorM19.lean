/-
  Texts of choices: types.write, whole.
  types.Write, Size; the reference's SameType; the law's own small helpers.
  wires' reader of one event: a type.
-/
import Derived.Test.YtpidjanngbaiiaaGreatDoorTyY
import Derived.Test.YtpidjanngbaiiaaGreatDoorM6
import Derived.Test.YtpidjanngbaiiaaGreatDoorM10
import Derived.Test.YtpidjanngbaiiaaGreatDoorM16
import Derived.Test.YtpidjanngbaiiaaGreatDoorM9
namespace Go.Proofs.YtpidjanngbaiiaaGreatDoor
open Go.RowKit Go.Proofs
set_option maxRecDepth 100000

theorem join_eq : ∀ (l : List Str), Lib.join l [44] = joined l
 | [] => by simp [Lib.join, joined, List.intercalate]
 | [a] => by simp [Lib.join, joined, List.intercalate]
 | a :: b :: r => by
  have := join_eq (b :: r)
  simp only [Lib.join, List.intercalate, joined] at this ⊢
  rw [← this]
  simp [List.intersperse]

set_option maxHeartbeats 4000000 in
theorem write_6 (m : Nat) (ih : ∀ (t : Ty) (v : Value) (w : World), parts t ≤ m → parts t ≤ 60 → IsTy w v t → Good t → Sorts w → TextSays 67 t v w)
  (ls : List Str) (ks : List Ty) (v : Value) (w : World) (hks : ∀ c ∈ ks, parts c ≤ m ∧ parts c ≤ 60 ∧ Good c) (hl6 : ls.length ≤ 6) (hl1 : 1 ≤ ls.length) (hls : ∀ l ∈ ls, l.length ≤ 8) (hlen : ks.length = ls.length) (hv : IsTy w v (.mk 6 0 [] ls ks)) (hsw : Sorts w) : TextSays 67 (.mk 6 0 [] ls ks) v w := by
 unfold TextSays
 obtain ⟨lv, kv, rfl, hs1, hs2⟩ := hv
 simp only [Ty.kind, Ty.sort, Ty.name, Ty.labels, Ty.kids] at hs1 hs2 ⊢
 have HLS := Lib.hid hs1
 obtain ⟨A0, p0, rfl, -, -⟩ := hs1
 have HK := Lib.hid hs2
 obtain ⟨A, cap, rfl, -, -⟩ := hs2
 have HSW := Lib.hid hsw; clear hsw
 obtain ⟨P, hP⟩ : ∃ x, pairs ls (txts ks) = x := ⟨_, rfl⟩
 have hPl : P.length = ls.length := by rw [← hP, pairs_length (by rw [txts_length, hlen])]
 have hPx : ∀ x ∈ P, x.length ≤ 6009 := by
  rw [← hP]
  refine pairs_le hls fun t ht => ?_
  obtain ⟨c, hc, rfl⟩ := txts_mem ht
  have h1 := txt_len c (hks c hc).2.2
  have h2 := (hks c hc).2.1
  omega
 have hjl : (joined P).length ≤ 40000 := by
  have h1 := grow_len (sg := 43) hPx (k := P.length) (Nat.le_refl _)
  unfold grow at h1
  rw [if_neg (by omega), List.take_length] at h1
  simp only [List.length_append, List.length_cons, List.length_nil] at h1
  omega
 have hans : txt (.mk 6 0 [] ls ks) = [43, 123] ++ joined P ++ [125] := by
  rw [← hP]
  simp [txt, txtOf]
 rw [hans]
 clear hans
 have HPX := Lib.hid hPx; have HPP := Lib.hid hP; have HKS := Lib.hid hks; have HLE := Lib.hid hls
 obtain ⟨L, hL⟩ : ∃ x, ls.length = x := ⟨_, rfl⟩
 have HL1 := Lib.hid hL; have HL2 := Lib.hid (hlen.trans hL); have HL3 := Lib.hid (hPl.trans hL)
 rw [hlen] at HK ⊢
 rw [hL] at HK HLS hl6 hl1 ⊢
 clear hL hlen hPl hPx hP hks hls
 go_enter Tryz.func67, Tryz.ntmps67
 go_wp2_with fail
 obtain ⟨W, hW⟩ : ∃ W, w.alloc (.cells #[.int .i64 6, .int .i64 0, .string ⟨#[]⟩, .slice A0 L p0, .slice A L cap] 30) = W := ⟨_, rfl⟩
 have hbW : Below w.heap.size w W := by subst hW; go_grown
 have hWs : W.heap.size = w.heap.size + 1 := by subst hW; simp
 have X0 : W.cell? ⟨w.heap.size, 0, none⟩ = some (.int .i64 6) := by subst hW; simp [go_sem]
 have X3 : W.cell? ⟨w.heap.size, 3, none⟩ = some (.slice A0 L p0) := by subst hW; simp [go_sem]
 try rw [hW]
 clear hW
 obtain ⟨N, hN⟩ : ∃ x, W.heap.size = x := ⟨_, rfl⟩
 go_loopw [3, 90] (fun lv i wr => ∃ k : Nat, k ≤ L ∧ i = .int .i64 k ∧ wr.ownsRow N 9 1 lv k ((P.take k).map fun s => .string ⟨s.toArray⟩) ∧ Below N W wr) (fun _ i _ => L - (intOf i).toNat)
 case atStart => exact ⟨0, by omega, rfl, World.ownsRow_nil _ _ _ _, Below.refl _ _⟩
 case round =>
  obtain ⟨k, hk, rfl, hown, hbN⟩ := hrel
  have hbr : Below W.heap.size W wr := by rw [hN]; exact hbN
  have hNr : N ≤ wr.heap.size := by rw [← hN]; exact hbr.size
  have x3 := cell_keep X3 hbr
  have x0 := cell_keep X0 hbr
  obtain ⟨Av, capv, rfl⟩ := own_form hown
  by_cases hlt : k < L
  ·obtain ⟨c, hc⟩ : ∃ x, ks[k]? = some x := ⟨_, List.getElem?_eq_getElem (by rw [HL2.out]; exact hlt)⟩
   obtain ⟨l, hl⟩ : ∃ x, ls[k]? = some x := ⟨_, List.getElem?_eq_getElem (by rw [HL1.out]; exact hlt)⟩
   have HC := Lib.hid hc; have HLk := Lib.hid hl
   obtain ⟨-, -, b, off, A1, n1, p1, A2, n2, p2, rfl, c0, c1, c2, c3, c4, hl', hk'⟩ := kid_at ((HK.out.keep hbW).keep hbr) hc
   obtain ⟨lA, lp, el, hlc, hlr⟩ := (HLS.out.keep hbW).keep hbr
   obtain ⟨lb, loff, rfl, hlrow⟩ := hlr (by rw [HL1.out]; omega)
   injection el with el1 el2 el3
   subst el1 el3
   clear el2
   have clab := hlrow k l hl
   have HL' := Lib.hid hl'; have HK' := Lib.hid hk'; clear hl' hk' hc hl
   have hcm := HKS.out c (mem_of_at HC.out)
   have hll := HLE.out l (mem_of_at HLk.out)
   have htl : (txt c).length ≤ 6000 := by have h1 := txt_len c hcm.2.2; have h2 := hcm.2.1; omega
   have hpair : P[k]? = some (l ++ [58] ++ txt c) := by rw [← HPP.out]; exact pairs_at HLk.out (txts_at HC.out)
   obtain ⟨T, hT⟩ : ∃ y, txt c = y := ⟨_, rfl⟩
   have HT := Lib.hid hT
   rw [hT] at htl hpair
   have HPR := Lib.hid hpair
   clear hT hpair
   have hlbN : lb < N := by
    obtain ⟨_, _, e, _, hr⟩ := HLS.out.keep hbW
    obtain ⟨b2, o2, e2, hrow2⟩ := hr (by rw [HL1.out]; omega)
    injection e with e1
    rw [e2] at e1
    obtain rfl : lb = b2 := by injection e1 with e1; injection e1
    rw [← hN]
    exact cell_lt (hrow2 k l HLk.out)
   obtain ⟨wa, hwa⟩ : ∃ y, wr.alloc (.cells #[.int .i64 c.kind, .int .i64 c.sort, .string ⟨c.name.toArray⟩, .slice A1 n1 p1, .slice A2 n2 p2] 30) = y := ⟨_, rfl⟩
   have hba : Below wr.heap.size wr wa := by subst hwa; exact (Below.refl _ _).alloc (Nat.le_refl _) _
   have hsa : wa.heap.size = wr.heap.size + 1 := by subst hwa; simp
   have hkb : VBox wa wr.heap.size c (.slice A1 n1 p1) (.slice A2 n2 p2) := by subst hwa; exact ⟨by simp [go_sem], by simp [go_sem], by simp [go_sem], by simp [go_sem], by simp [go_sem], fun j => by simp [go_sem], by simp⟩
   obtain ⟨k0, k1, k2, k3, k4, k5, k6⟩ := id hkb
   have hBN : w.heap.size < N := by omega
   have hS : ∀ w' : World, Same (fun b => b < N ∨ b = wr.heap.size) wa w' → (fun w' : World => w'.cell? ⟨w.heap.size, 3, none⟩ = some (.slice (some ⟨lb, loff, none⟩) L p0) ∧ w'.cell? ⟨lb, loff + k, none⟩ = some (.string ⟨l.toArray⟩) ∧ w'.cell? ⟨wr.heap.size, 0, none⟩ = some (.int .i64 c.kind) ∧ w'.cell? ⟨wr.heap.size, 1, none⟩ = some (.int .i64 c.sort) ∧ w'.cell? ⟨wr.heap.size, 2, none⟩ = some (.string ⟨c.name.toArray⟩) ∧ w'.cell? ⟨wr.heap.size, 3, none⟩ = some (.slice A1 n1 p1) ∧ w'.cell? ⟨wr.heap.size, 4, none⟩ = some (.slice A2 n2 p2)) w' := fun w' h => ⟨h.cell (by first | (left; omega) | (right; rfl)) (cell_keep x3 hba), h.cell (by first | (left; omega) | (right; rfl)) (cell_keep clab hba), h.cell (by first | (left; omega) | (right; rfl)) k0, h.cell (by first | (left; omega) | (right; rfl)) k1, h.cell (by first | (left; omega) | (right; rfl)) k2, h.cell (by first | (left; omega) | (right; rfl)) k3, h.cell (by first | (left; omega) | (right; rfl)) k4⟩
   have HSd := Lib.hid (hS wa.drew (fun _ _ _ => rfl))
   have HSB := Lib.hid hS; clear hS
   have hne : ∀ q, q < N ∨ q = wr.heap.size → some q ≠ (Value.slice Av k capv).ownBlock := fun q hq e => by
    obtain ⟨h1, h2⟩ := hown.lt q e.symm
    omega
   go_wp2_with fail
   try rw [hwa]
   clear hwa
   refine wp_region_T 12 (fun w' : World => w'.cell? ⟨w.heap.size, 3, none⟩ = some (.slice (some ⟨lb, loff, none⟩) L p0) ∧ w'.cell? ⟨lb, loff + k, none⟩ = some (.string ⟨l.toArray⟩) ∧ w'.cell? ⟨wr.heap.size, 0, none⟩ = some (.int .i64 c.kind) ∧ w'.cell? ⟨wr.heap.size, 1, none⟩ = some (.int .i64 c.sort) ∧ w'.cell? ⟨wr.heap.size, 2, none⟩ = some (.string ⟨c.name.toArray⟩) ∧ w'.cell? ⟨wr.heap.size, 3, none⟩ = some (.slice A1 n1 p1) ∧ w'.cell? ⟨wr.heap.size, 4, none⟩ = some (.slice A2 n2 p2)) (by kernel_rfl) ?_
   refine zT 0 ?_ rfl (Or.inl ⟨by rfl, ?_⟩) HSd.out ?_
   rotate_left
   ·(intro wq hSw; obtain ⟨_,_,_,_,_,_,_⟩ := hSw; go_simp; all_goals (first | (with_reducible rfl) | (rw [zI])))
   simp only [zA, zB, zC, Act.put, zD, zE, zF]
   refine zT 1 ?_ rfl (Or.inl ⟨by rfl, ?_⟩) HSd.out ?_
   rotate_left
   ·(intro wq hSw; obtain ⟨_,_,_,_,_,_,_⟩ := hSw; go_simp; all_goals (first | (with_reducible rfl) | (rw [zI])))
   simp only [zA, zB, zC, Act.put, zD, zE, zF]
   refine zT 2 ?_ rfl (Or.inl ⟨by rfl, ?_⟩) HSd.out ?_
   rotate_left
   ·(intro wq hSw; obtain ⟨_,_,_,_,_,_,_⟩ := hSw; go_simp; all_goals (first | (with_reducible rfl) | (rw [zI])))
   simp only [zA, zB, zC, Act.put, zD, zE, zF]
   refine zT 3 ?_ rfl (Or.inl ⟨by rfl, ?_⟩) HSd.out ?_
   rotate_left
   ·(intro wq hSw; obtain ⟨_,_,_,_,_,_,_⟩ := hSw; go_simp; all_goals (first | (with_reducible rfl) | (rw [zI])))
   simp only [zA, zB, zC, Act.put, zD, zE, zF]
   refine zT 4 ?_ rfl (Or.inl ⟨by rfl, ?_⟩) HSd.out ?_
   rotate_left
   ·(intro wq hSw; obtain ⟨_,_,_,_,_,_,_⟩ := hSw; go_simp; all_goals (first | (with_reducible rfl) | (rw [zI])))
   simp only [zA, zB, zC, Act.put, zD, zE, zF]
   refine zT 5 ?_ rfl (Or.inl ⟨by rfl, ?_⟩) HSd.out ?_
   rotate_left
   ·(intro wq hSw; obtain ⟨_,_,_,_,_,_,_⟩ := hSw; go_simp; all_goals (first | (with_reducible rfl) | (rw [zI])))
   simp only [zA, zB, zC, Act.put, zD, zE, zF]
   refine zT 6 ?_ rfl (Or.inl ⟨by rfl, ?_⟩) HSd.out ?_
   rotate_left
   ·(intro wq hSw; obtain ⟨_,_,_,_,_,_,_⟩ := hSw; go_simp; all_goals (first | (with_reducible rfl) | (rw [zI])))
   simp only [zA, zB, zC, Act.put, zD, zE, zF]
   refine zT 7 ?_ rfl (Or.inl ⟨by rfl, ?_⟩) HSd.out ?_
   rotate_left
   ·(intro wq hSw; obtain ⟨_,_,_,_,_,_,_⟩ := hSw; go_simp; all_goals (first | (with_reducible rfl) | (rw [zI])))
   simp only [zA, zB, zC, Act.put, zD, zE, zF]
   refine zO 8 fun K hK => ?_
   go_simp
   have hcall := ih c (.agg #[.int .i64 c.kind, .int .i64 c.sort, .string ⟨c.name.toArray⟩, .slice A1 n1 p1, .slice A2 n2 p2]) wa.drew hcm.1 hcm.2.1 (((isTy_of HL'.out HK'.out).keep hba).keep (Below.refl wa.heap.size wa).drew) hcm.2.2 ((((HSW.out.keep hbW).keep hbr).keep hba).keep (Below.refl wa.heap.size wa).drew)
   unfold TextSays at hcall
   refine hcall.mono ?_; clear hcall; rw [HT.out]; rintro e w1 ⟨rfl, hq⟩
   have hba1 : Below wa.heap.size wa w1 := chain (Below.refl wa.heap.size wa).drew hq
   have hb1 : Below wr.heap.size wr w1 := chain hba hba1
   have hs1 := hb1.size
   have hs2 := hba1.size
   clear hq
   refine hK.out _ _ (fun _ => HSB.out _ (Same.below hba1)) ?_
   clear hK K
   try simp only [zA, zB, zC, Act.put, zD, zE, zF]
   refine zT 9 ?_ rfl (Or.inl ⟨by rfl, ?_⟩) (HSB.out _ (Same.below hba1)) ?_
   rotate_left
   ·(intro wq hSw; obtain ⟨_,_,_,_,_,_,_⟩ := hSw; go_simp; all_goals (first | (with_reducible rfl) | (rw [zI])))
   simp only [zA, zB, zC, Act.put, zD, zE, zF]
   refine zO 10 fun K hK => ?_
   go_simp
   have hsA := Below.trans hba1 ((Below.refl _ w1).alloc hs2 (.cells #[.string ⟨(l ++ 58 :: T).toArray⟩] 9))
   have hbA : Below N wr (w1.alloc (.cells #[.string ⟨(l ++ 58 :: T).toArray⟩] 9)) := (hb1.mono hNr).alloc (by omega) _
   refine hK.out _ _ (fun _ => HSB.out _ (Same.below hsA)) ?_
   clear hK K
   try simp only [zA, zB, zC, Act.put, zD, zE, zF]
   refine zO 11 fun K hK => ?_
   refine step_app rt_strs rfl (.tmp 95) (.tmp 105) rfl N (.slice Av k capv) k _ rfl ((own_keep hown hb1 (Nat.le_refl _)).alloc _) ⟨w1.heap.size, 0, none⟩ 1 1 [.string ⟨(l ++ 58 :: T).toArray⟩] rfl rfl (cell_one_new _ _ _) (by simp [Value.oneCell']) (by unfold maxLen; omega) (by omega) (by rw [World.size_alloc]; omega) (fun v' w3 n1' n2' n3' n4' => ?_)
   obtain ⟨Aw, capw, rfl⟩ := own_form n1'
   have hb3 := hbA.trans n4'
   refine hK.out _ _ (fun _ => HSB.out _ (Same.trans (Same.below hsA) hsA.size (Same.grown n2' hne))) ?_
   clear hK K
   try simp only [zA, zB, zC, Act.put, zD, zE, zF]
   refine zO 12 fun K hK => ?_
   go_simp
   refine hK.out _ _ (fun h => absurd h (by decide)) ?_
   clear hK K
   try simp only [zA, zB, zC, Act.put, zD, zE, zF]
   refine wpT_done (by kernel_rfl) ?_
   have hown3 : w3.ownsRow N 9 1 (.slice Aw (k + 1) capw) (k + 1) ((P.take (k + 1)).map fun s => .string ⟨s.toArray⟩) := by
    rw [List.take_add_one, HPR.out]
    simpa using n1'
   have hbN3 := hbN.trans hb3
   clear HSB HSd n1' n2' n3' n4' hb3
   go_wp2_with fail
   go_roundw
   case rel => exact ⟨k + 1, by omega, by go_num, hown3, hbN3⟩
   case measure => simp [intOf]; omega
  ·have hkL : k = L := by omega
   subst hkL
   clear hlt
   have htk : P.take k = P := List.take_of_length_le (by rw [HL3.out]; exact Nat.le_refl _)
   rw [htk] at hown
   have hcs := fun g => hown.cells (g := g)
   rcases id hown.2 with ⟨e, h0⟩ | ⟨g, cap', cur, e, hg, _, hn, _⟩
   ·omega
   ·injection e with e1 e2 e3
    subst e1 e3
    have hcells : ∀ (j : Nat) x, (P.map fun s => (⟨s.toArray⟩ : ByteArray))[j]? = some x → wr.cell? ⟨g, 0 + j, none⟩ = some (.string x) := fun j x hx => by
     rw [List.getElem?_map] at hx
     obtain ⟨s, hs, rfl⟩ := Option.map_eq_some_iff.1 hx
     have := hcs g rfl j (.string ⟨s.toArray⟩) (by rw [List.getElem?_map, hs]; rfl)
     rw [Go.WideShapes.add_plain] at this
     exact this
    have hgl : g < wr.heap.size := (hown.lt g rfl).2
    have hmm : (P.map fun s => (⟨s.toArray⟩ : ByteArray)).map (·.data.toList) = P := by rw [List.map_map]; exact (List.map_congr_left (fun s _ => rfl)).trans (List.map_id P)
    have hjoin := Tryz.strings_Join g 0 capv (P.map fun s => ⟨s.toArray⟩) ⟨#[44]⟩ wr hcells hgl (by rw [List.length_map, HL3.out]; omega) (by rw [List.length_map, HL3.out]; exact hn) (by rw [hmm]; show (Lib.join P [44]).length ≤ _; rw [join_eq]; omega)
    rw [hmm, List.length_map, HL3.out] at hjoin
    have hj2 : Lib.join P (⟨#[44]⟩ : ByteArray).data.toList = joined P := join_eq P
    rw [hj2] at hjoin
    obtain ⟨J, hJ⟩ : ∃ x, joined P = x := ⟨_, rfl⟩
    rw [hJ] at hjoin hjl
    have HJ := Lib.hid hJ
    have HJN := Lib.hid hjoin
    clear hjoin hJ hj2 hcells hcs hown
    go_wp2_with fail
    refine HJN.out.mono ?_; rintro e w1 ⟨rfl, hb1⟩
    go_wp2_with fail
    go_ret
    exact ⟨by rw [HJ.out]; simp, chain hbW (chain hbr hb1)⟩

set_option maxHeartbeats 4000000 in
theorem write_7 (m : Nat) (ih : ∀ (t : Ty) (v : Value) (w : World), parts t ≤ m → parts t ≤ 60 → IsTy w v t → Good t → Sorts w → TextSays 67 t v w)
  (ls : List Str) (ks : List Ty) (v : Value) (w : World) (hks : ∀ c ∈ ks, parts c ≤ m ∧ parts c ≤ 60 ∧ Good c) (hl6 : ls.length ≤ 6) (hl1 : 1 ≤ ls.length) (hls : ∀ l ∈ ls, l.length ≤ 8) (hlen : ks.length = ls.length) (hv : IsTy w v (.mk 7 0 [] ls ks)) (hsw : Sorts w) : TextSays 67 (.mk 7 0 [] ls ks) v w := by
 unfold TextSays
 obtain ⟨lv, kv, rfl, hs1, hs2⟩ := hv
 simp only [Ty.kind, Ty.sort, Ty.name, Ty.labels, Ty.kids] at hs1 hs2 ⊢
 have HLS := Lib.hid hs1
 obtain ⟨A0, p0, rfl, -, -⟩ := hs1
 have HK := Lib.hid hs2
 obtain ⟨A, cap, rfl, -, -⟩ := hs2
 have HSW := Lib.hid hsw; clear hsw
 obtain ⟨P, hP⟩ : ∃ x, pairs ls (txts ks) = x := ⟨_, rfl⟩
 have hPl : P.length = ls.length := by rw [← hP, pairs_length (by rw [txts_length, hlen])]
 have hPx : ∀ x ∈ P, x.length ≤ 6009 := by
  rw [← hP]
  refine pairs_le hls fun t ht => ?_
  obtain ⟨c, hc, rfl⟩ := txts_mem ht
  have h1 := txt_len c (hks c hc).2.2
  have h2 := (hks c hc).2.1
  omega
 have hjl : (joined P).length ≤ 40000 := by
  have h1 := grow_len (sg := 43) hPx (k := P.length) (Nat.le_refl _)
  unfold grow at h1
  rw [if_neg (by omega), List.take_length] at h1
  simp only [List.length_append, List.length_cons, List.length_nil] at h1
  omega
 have hans : txt (.mk 7 0 [] ls ks) = [38, 123] ++ joined P ++ [125] := by
  rw [← hP]
  simp [txt, txtOf]
 rw [hans]
 clear hans
 have HPX := Lib.hid hPx; have HPP := Lib.hid hP; have HKS := Lib.hid hks; have HLE := Lib.hid hls
 obtain ⟨L, hL⟩ : ∃ x, ls.length = x := ⟨_, rfl⟩
 have HL1 := Lib.hid hL; have HL2 := Lib.hid (hlen.trans hL); have HL3 := Lib.hid (hPl.trans hL)
 rw [hlen] at HK ⊢
 rw [hL] at HK HLS hl6 hl1 ⊢
 clear hL hlen hPl hPx hP hks hls
 go_enter Tryz.func67, Tryz.ntmps67
 go_wp2_with fail
 obtain ⟨W, hW⟩ : ∃ W, w.alloc (.cells #[.int .i64 7, .int .i64 0, .string ⟨#[]⟩, .slice A0 L p0, .slice A L cap] 30) = W := ⟨_, rfl⟩
 have hbW : Below w.heap.size w W := by subst hW; go_grown
 have hWs : W.heap.size = w.heap.size + 1 := by subst hW; simp
 have X0 : W.cell? ⟨w.heap.size, 0, none⟩ = some (.int .i64 7) := by subst hW; simp [go_sem]
 have X3 : W.cell? ⟨w.heap.size, 3, none⟩ = some (.slice A0 L p0) := by subst hW; simp [go_sem]
 try rw [hW]
 clear hW
 obtain ⟨N, hN⟩ : ∃ x, W.heap.size = x := ⟨_, rfl⟩
 go_loopw [3, 90] (fun lv i wr => ∃ k : Nat, k ≤ L ∧ i = .int .i64 k ∧ wr.ownsRow N 9 1 lv k ((P.take k).map fun s => .string ⟨s.toArray⟩) ∧ Below N W wr) (fun _ i _ => L - (intOf i).toNat)
 case atStart => exact ⟨0, by omega, rfl, World.ownsRow_nil _ _ _ _, Below.refl _ _⟩
 case round =>
  obtain ⟨k, hk, rfl, hown, hbN⟩ := hrel
  have hbr : Below W.heap.size W wr := by rw [hN]; exact hbN
  have hNr : N ≤ wr.heap.size := by rw [← hN]; exact hbr.size
  have x3 := cell_keep X3 hbr
  have x0 := cell_keep X0 hbr
  obtain ⟨Av, capv, rfl⟩ := own_form hown
  by_cases hlt : k < L
  ·obtain ⟨c, hc⟩ : ∃ x, ks[k]? = some x := ⟨_, List.getElem?_eq_getElem (by rw [HL2.out]; exact hlt)⟩
   obtain ⟨l, hl⟩ : ∃ x, ls[k]? = some x := ⟨_, List.getElem?_eq_getElem (by rw [HL1.out]; exact hlt)⟩
   have HC := Lib.hid hc; have HLk := Lib.hid hl
   obtain ⟨-, -, b, off, A1, n1, p1, A2, n2, p2, rfl, c0, c1, c2, c3, c4, hl', hk'⟩ := kid_at ((HK.out.keep hbW).keep hbr) hc
   obtain ⟨lA, lp, el, hlc, hlr⟩ := (HLS.out.keep hbW).keep hbr
   obtain ⟨lb, loff, rfl, hlrow⟩ := hlr (by rw [HL1.out]; omega)
   injection el with el1 el2 el3
   subst el1 el3
   clear el2
   have clab := hlrow k l hl
   have HL' := Lib.hid hl'; have HK' := Lib.hid hk'; clear hl' hk' hc hl
   have hcm := HKS.out c (mem_of_at HC.out)
   have hll := HLE.out l (mem_of_at HLk.out)
   have htl : (txt c).length ≤ 6000 := by have h1 := txt_len c hcm.2.2; have h2 := hcm.2.1; omega
   have hpair : P[k]? = some (l ++ [58] ++ txt c) := by rw [← HPP.out]; exact pairs_at HLk.out (txts_at HC.out)
   obtain ⟨T, hT⟩ : ∃ y, txt c = y := ⟨_, rfl⟩
   have HT := Lib.hid hT
   rw [hT] at htl hpair
   have HPR := Lib.hid hpair
   clear hT hpair
   have hlbN : lb < N := by
    obtain ⟨_, _, e, _, hr⟩ := HLS.out.keep hbW
    obtain ⟨b2, o2, e2, hrow2⟩ := hr (by rw [HL1.out]; omega)
    injection e with e1
    rw [e2] at e1
    obtain rfl : lb = b2 := by injection e1 with e1; injection e1
    rw [← hN]
    exact cell_lt (hrow2 k l HLk.out)
   obtain ⟨wa, hwa⟩ : ∃ y, wr.alloc (.cells #[.int .i64 c.kind, .int .i64 c.sort, .string ⟨c.name.toArray⟩, .slice A1 n1 p1, .slice A2 n2 p2] 30) = y := ⟨_, rfl⟩
   have hba : Below wr.heap.size wr wa := by subst hwa; exact (Below.refl _ _).alloc (Nat.le_refl _) _
   have hsa : wa.heap.size = wr.heap.size + 1 := by subst hwa; simp
   have hkb : VBox wa wr.heap.size c (.slice A1 n1 p1) (.slice A2 n2 p2) := by subst hwa; exact ⟨by simp [go_sem], by simp [go_sem], by simp [go_sem], by simp [go_sem], by simp [go_sem], fun j => by simp [go_sem], by simp⟩
   obtain ⟨k0, k1, k2, k3, k4, k5, k6⟩ := id hkb
   have hBN : w.heap.size < N := by omega
   have hS : ∀ w' : World, Same (fun b => b < N ∨ b = wr.heap.size) wa w' → (fun w' : World => w'.cell? ⟨w.heap.size, 3, none⟩ = some (.slice (some ⟨lb, loff, none⟩) L p0) ∧ w'.cell? ⟨lb, loff + k, none⟩ = some (.string ⟨l.toArray⟩) ∧ w'.cell? ⟨wr.heap.size, 0, none⟩ = some (.int .i64 c.kind) ∧ w'.cell? ⟨wr.heap.size, 1, none⟩ = some (.int .i64 c.sort) ∧ w'.cell? ⟨wr.heap.size, 2, none⟩ = some (.string ⟨c.name.toArray⟩) ∧ w'.cell? ⟨wr.heap.size, 3, none⟩ = some (.slice A1 n1 p1) ∧ w'.cell? ⟨wr.heap.size, 4, none⟩ = some (.slice A2 n2 p2)) w' := fun w' h => ⟨h.cell (by first | (left; omega) | (right; rfl)) (cell_keep x3 hba), h.cell (by first | (left; omega) | (right; rfl)) (cell_keep clab hba), h.cell (by first | (left; omega) | (right; rfl)) k0, h.cell (by first | (left; omega) | (right; rfl)) k1, h.cell (by first | (left; omega) | (right; rfl)) k2, h.cell (by first | (left; omega) | (right; rfl)) k3, h.cell (by first | (left; omega) | (right; rfl)) k4⟩
   have HSd := Lib.hid (hS wa.drew (fun _ _ _ => rfl))
   have HSB := Lib.hid hS; clear hS
   have hne : ∀ q, q < N ∨ q = wr.heap.size → some q ≠ (Value.slice Av k capv).ownBlock := fun q hq e => by
    obtain ⟨h1, h2⟩ := hown.lt q e.symm
    omega
   go_wp2_with fail
   try rw [hwa]
   clear hwa
   refine wp_region_T 12 (fun w' : World => w'.cell? ⟨w.heap.size, 3, none⟩ = some (.slice (some ⟨lb, loff, none⟩) L p0) ∧ w'.cell? ⟨lb, loff + k, none⟩ = some (.string ⟨l.toArray⟩) ∧ w'.cell? ⟨wr.heap.size, 0, none⟩ = some (.int .i64 c.kind) ∧ w'.cell? ⟨wr.heap.size, 1, none⟩ = some (.int .i64 c.sort) ∧ w'.cell? ⟨wr.heap.size, 2, none⟩ = some (.string ⟨c.name.toArray⟩) ∧ w'.cell? ⟨wr.heap.size, 3, none⟩ = some (.slice A1 n1 p1) ∧ w'.cell? ⟨wr.heap.size, 4, none⟩ = some (.slice A2 n2 p2)) (by kernel_rfl) ?_
   refine zT 0 ?_ rfl (Or.inl ⟨by rfl, ?_⟩) HSd.out ?_
   rotate_left
   ·(intro wq hSw; obtain ⟨_,_,_,_,_,_,_⟩ := hSw; go_simp; all_goals (first | (with_reducible rfl) | (rw [zI])))
   simp only [zA, zB, zC, Act.put, zD, zE, zF]
   refine zT 1 ?_ rfl (Or.inl ⟨by rfl, ?_⟩) HSd.out ?_
   rotate_left
   ·(intro wq hSw; obtain ⟨_,_,_,_,_,_,_⟩ := hSw; go_simp; all_goals (first | (with_reducible rfl) | (rw [zI])))
   simp only [zA, zB, zC, Act.put, zD, zE, zF]
   refine zT 2 ?_ rfl (Or.inl ⟨by rfl, ?_⟩) HSd.out ?_
   rotate_left
   ·(intro wq hSw; obtain ⟨_,_,_,_,_,_,_⟩ := hSw; go_simp; all_goals (first | (with_reducible rfl) | (rw [zI])))
   simp only [zA, zB, zC, Act.put, zD, zE, zF]
   refine zT 3 ?_ rfl (Or.inl ⟨by rfl, ?_⟩) HSd.out ?_
   rotate_left
   ·(intro wq hSw; obtain ⟨_,_,_,_,_,_,_⟩ := hSw; go_simp; all_goals (first | (with_reducible rfl) | (rw [zI])))
   simp only [zA, zB, zC, Act.put, zD, zE, zF]
   refine zT 4 ?_ rfl (Or.inl ⟨by rfl, ?_⟩) HSd.out ?_
   rotate_left
   ·(intro wq hSw; obtain ⟨_,_,_,_,_,_,_⟩ := hSw; go_simp; all_goals (first | (with_reducible rfl) | (rw [zI])))
   simp only [zA, zB, zC, Act.put, zD, zE, zF]
   refine zT 5 ?_ rfl (Or.inl ⟨by rfl, ?_⟩) HSd.out ?_
   rotate_left
   ·(intro wq hSw; obtain ⟨_,_,_,_,_,_,_⟩ := hSw; go_simp; all_goals (first | (with_reducible rfl) | (rw [zI])))
   simp only [zA, zB, zC, Act.put, zD, zE, zF]
   refine zT 6 ?_ rfl (Or.inl ⟨by rfl, ?_⟩) HSd.out ?_
   rotate_left
   ·(intro wq hSw; obtain ⟨_,_,_,_,_,_,_⟩ := hSw; go_simp; all_goals (first | (with_reducible rfl) | (rw [zI])))
   simp only [zA, zB, zC, Act.put, zD, zE, zF]
   refine zT 7 ?_ rfl (Or.inl ⟨by rfl, ?_⟩) HSd.out ?_
   rotate_left
   ·(intro wq hSw; obtain ⟨_,_,_,_,_,_,_⟩ := hSw; go_simp; all_goals (first | (with_reducible rfl) | (rw [zI])))
   simp only [zA, zB, zC, Act.put, zD, zE, zF]
   refine zO 8 fun K hK => ?_
   go_simp
   have hcall := ih c (.agg #[.int .i64 c.kind, .int .i64 c.sort, .string ⟨c.name.toArray⟩, .slice A1 n1 p1, .slice A2 n2 p2]) wa.drew hcm.1 hcm.2.1 (((isTy_of HL'.out HK'.out).keep hba).keep (Below.refl wa.heap.size wa).drew) hcm.2.2 ((((HSW.out.keep hbW).keep hbr).keep hba).keep (Below.refl wa.heap.size wa).drew)
   unfold TextSays at hcall
   refine hcall.mono ?_; clear hcall; rw [HT.out]; rintro e w1 ⟨rfl, hq⟩
   have hba1 : Below wa.heap.size wa w1 := chain (Below.refl wa.heap.size wa).drew hq
   have hb1 : Below wr.heap.size wr w1 := chain hba hba1
   have hs1 := hb1.size
   have hs2 := hba1.size
   clear hq
   refine hK.out _ _ (fun _ => HSB.out _ (Same.below hba1)) ?_
   clear hK K
   try simp only [zA, zB, zC, Act.put, zD, zE, zF]
   refine zT 9 ?_ rfl (Or.inl ⟨by rfl, ?_⟩) (HSB.out _ (Same.below hba1)) ?_
   rotate_left
   ·(intro wq hSw; obtain ⟨_,_,_,_,_,_,_⟩ := hSw; go_simp; all_goals (first | (with_reducible rfl) | (rw [zI])))
   simp only [zA, zB, zC, Act.put, zD, zE, zF]
   refine zO 10 fun K hK => ?_
   go_simp
   have hsA := Below.trans hba1 ((Below.refl _ w1).alloc hs2 (.cells #[.string ⟨(l ++ 58 :: T).toArray⟩] 9))
   have hbA : Below N wr (w1.alloc (.cells #[.string ⟨(l ++ 58 :: T).toArray⟩] 9)) := (hb1.mono hNr).alloc (by omega) _
   refine hK.out _ _ (fun _ => HSB.out _ (Same.below hsA)) ?_
   clear hK K
   try simp only [zA, zB, zC, Act.put, zD, zE, zF]
   refine zO 11 fun K hK => ?_
   refine step_app rt_strs rfl (.tmp 95) (.tmp 105) rfl N (.slice Av k capv) k _ rfl ((own_keep hown hb1 (Nat.le_refl _)).alloc _) ⟨w1.heap.size, 0, none⟩ 1 1 [.string ⟨(l ++ 58 :: T).toArray⟩] rfl rfl (cell_one_new _ _ _) (by simp [Value.oneCell']) (by unfold maxLen; omega) (by omega) (by rw [World.size_alloc]; omega) (fun v' w3 n1' n2' n3' n4' => ?_)
   obtain ⟨Aw, capw, rfl⟩ := own_form n1'
   have hb3 := hbA.trans n4'
   refine hK.out _ _ (fun _ => HSB.out _ (Same.trans (Same.below hsA) hsA.size (Same.grown n2' hne))) ?_
   clear hK K
   try simp only [zA, zB, zC, Act.put, zD, zE, zF]
   refine zO 12 fun K hK => ?_
   go_simp
   refine hK.out _ _ (fun h => absurd h (by decide)) ?_
   clear hK K
   try simp only [zA, zB, zC, Act.put, zD, zE, zF]
   refine wpT_done (by kernel_rfl) ?_
   have hown3 : w3.ownsRow N 9 1 (.slice Aw (k + 1) capw) (k + 1) ((P.take (k + 1)).map fun s => .string ⟨s.toArray⟩) := by
    rw [List.take_add_one, HPR.out]
    simpa using n1'
   have hbN3 := hbN.trans hb3
   clear HSB HSd n1' n2' n3' n4' hb3
   go_wp2_with fail
   go_roundw
   case rel => exact ⟨k + 1, by omega, by go_num, hown3, hbN3⟩
   case measure => simp [intOf]; omega
  ·have hkL : k = L := by omega
   subst hkL
   clear hlt
   have htk : P.take k = P := List.take_of_length_le (by rw [HL3.out]; exact Nat.le_refl _)
   rw [htk] at hown
   have hcs := fun g => hown.cells (g := g)
   rcases id hown.2 with ⟨e, h0⟩ | ⟨g, cap', cur, e, hg, _, hn, _⟩
   ·omega
   ·injection e with e1 e2 e3
    subst e1 e3
    have hcells : ∀ (j : Nat) x, (P.map fun s => (⟨s.toArray⟩ : ByteArray))[j]? = some x → wr.cell? ⟨g, 0 + j, none⟩ = some (.string x) := fun j x hx => by
     rw [List.getElem?_map] at hx
     obtain ⟨s, hs, rfl⟩ := Option.map_eq_some_iff.1 hx
     have := hcs g rfl j (.string ⟨s.toArray⟩) (by rw [List.getElem?_map, hs]; rfl)
     rw [Go.WideShapes.add_plain] at this
     exact this
    have hgl : g < wr.heap.size := (hown.lt g rfl).2
    have hmm : (P.map fun s => (⟨s.toArray⟩ : ByteArray)).map (·.data.toList) = P := by rw [List.map_map]; exact (List.map_congr_left (fun s _ => rfl)).trans (List.map_id P)
    have hjoin := Tryz.strings_Join g 0 capv (P.map fun s => ⟨s.toArray⟩) ⟨#[44]⟩ wr hcells hgl (by rw [List.length_map, HL3.out]; omega) (by rw [List.length_map, HL3.out]; exact hn) (by rw [hmm]; show (Lib.join P [44]).length ≤ _; rw [join_eq]; omega)
    rw [hmm, List.length_map, HL3.out] at hjoin
    have hj2 : Lib.join P (⟨#[44]⟩ : ByteArray).data.toList = joined P := join_eq P
    rw [hj2] at hjoin
    obtain ⟨J, hJ⟩ : ∃ x, joined P = x := ⟨_, rfl⟩
    rw [hJ] at hjoin hjl
    have HJ := Lib.hid hJ
    have HJN := Lib.hid hjoin
    clear hjoin hJ hj2 hcells hcs hown
    go_wp2_with fail
    refine HJN.out.mono ?_; rintro e w1 ⟨rfl, hb1⟩
    go_wp2_with fail
    go_ret
    exact ⟨by rw [HJ.out]; simp, chain hbW (chain hbr hb1)⟩

theorem write_any : ∀ (m : Nat) (t : Ty) (v : Value) (w : World), parts t ≤ m → parts t ≤ 60 → IsTy w v t → Good t → Sorts w → TextSays 67 t v w := by
 intro m
 induction m with
 | zero => intro t v w h; cases t; simp only [parts] at h; omega
 | succ m ih =>
 intro t v w hm h60 hv hg hsw
 obtain ⟨k, s, n, ls, ks⟩ := t
 have hsh := shape_of hg.shape
 have hkids := hg.kid
 simp only [Ty.kind, Ty.sort, Ty.name, Ty.labels, Ty.kids] at hsh hkids
 simp only [parts] at hm h60
 have hp : ∀ c ∈ ks, parts c ≤ m ∧ parts c ≤ 60 ∧ Good c := fun c hc => by
  have := parts_at hc
  exact ⟨by omega, by omega, hkids c hc⟩
 obtain ⟨kl, hkl⟩ : ∃ x, ks.length = x := ⟨_, rfl⟩
 rw [hkl] at hsh
 cases hsh with
 | fin =>
  obtain rfl := List.eq_nil_of_length_eq_zero hkl
  exact write_1 m ih v w hv hsw
 | value k s hk h1 h3 =>
  obtain ⟨c, rfl⟩ : ∃ c, ks = [c] := by match ks, hkl with | [c], _ => exact ⟨c, rfl⟩
  obtain ⟨a1, a2, a3⟩ := hp c (by simp)
  obtain ⟨n, rfl⟩ : ∃ n : Nat, s = n := ⟨s.toNat, by omega⟩
  rcases hk with rfl | rfl
  ·exact write_2 m ih n c v w a1 a2 a3 hv hsw (by omega) (by omega)
  ·exact write_3 m ih n c v w a1 a2 a3 hv hsw (by omega) (by omega)
 | channel k hk =>
  obtain ⟨c, d, rfl⟩ : ∃ c d, ks = [c, d] := by match ks, hkl with | [c, d], _ => exact ⟨c, d, rfl⟩
  obtain ⟨a1, a2, a3⟩ := hp c (by simp)
  obtain ⟨b1, b2, b3⟩ := hp d (by simp)
  rcases hk with rfl | rfl
  ·exact write_4 m ih c d v w a1 a2 a3 b1 b2 b3 hv hsw
  ·exact write_5 m ih c d v w a1 a2 a3 b1 b2 b3 hv hsw
 | choice k hk ls h =>
  obtain ⟨h1, h6, h8⟩ := labelsOk_len h
  rcases hk with rfl | rfl
  ·exact write_6 m ih ls ks v w hp h6 h1 h8 hkl hv hsw
  ·exact write_7 m ih ls ks v w hp h6 h1 h8 hkl hv hsw
 | loop n h =>
  obtain ⟨c, rfl⟩ : ∃ c, ks = [c] := by match ks, hkl with | [c], _ => exact ⟨c, rfl⟩
  obtain ⟨a1, a2, a3⟩ := hp c (by simp)
  exact write_8 m ih n c v w a1 a2 a3 hv hsw (isVar_len h).2
 | var n h =>
  obtain rfl := List.eq_nil_of_length_eq_zero hkl
  exact write_9 m ih n v w hv hsw
set_option maxRecDepth 100000
set_option maxHeartbeats 1000000 in
theorem Write_bad (t : Ty) (v : Value) (w : World) (hv : IsTy w v t) (hf : Fit t) (E : Int) (hE : tyErr t = E) (h0 : E ≠ 0) :
  Calls Tryz.prog 32 #[v] w fun e w' => e = .returned (.tuple #[.string ⟨#[]⟩, .int .i64 E]) ∧ Below w.heap.size w w' := by
 have HZ := Lib.hid hv
 obtain ⟨lv, kv, rfl, h1, h2⟩ := hv
 obtain ⟨A0, p0, rfl, -, -⟩ := h1
 obtain ⟨A, cap, rfl, -, -⟩ := h2
 have HE := Lib.hid hE
 have hb : (E != 0) = true := by rw [bne_iff_ne]; exact h0
 clear h0 hE
 go_enter Tryz.func32, Tryz.ntmps32
 go_wp2_with fail
 refine (Check_any t _ _ (HZ.out.keep (by go_grown)) hf).mono ?_; rw [HE.out]; rintro e w1 ⟨rfl, hb1⟩
 go_wp2_with fail
 exact bodyPost_ret (v := .tuple #[.string ⟨#[]⟩, .int .i64 E]) (by simp [results, Tryz.results32, go_sem]) rfl ⟨rfl, by first | exact hb1 | exact chain (by go_grown) hb1⟩

set_option maxHeartbeats 1000000 in
theorem Write_ok (t : Ty) (v : Value) (w : World) (hv : IsTy w v t) (hf : Fit t) (hE : tyErr t = 0) (hsw : Sorts w) :
  Calls Tryz.prog 32 #[v] w fun e w' => e = .returned (.tuple #[.string ⟨(txt t).toArray⟩, .int .i64 0]) ∧ Below w.heap.size w w' := by
 have HZ := Lib.hid hv
 obtain ⟨lv, kv, rfl, h1, h2⟩ := hv
 obtain ⟨A0, p0, rfl, -, -⟩ := h1
 obtain ⟨A, cap, rfl, -, -⟩ := h2
 have HE := Lib.hid hE
 have hg := good_of_chk t [] 60 hE
 have hp := parts_ok hE
 clear hE
 go_enter Tryz.func32, Tryz.ntmps32
 go_wp2_with fail
 have hbx : VBox (w.alloc (.cells #[.int .i64 t.kind, .int .i64 t.sort, .string ⟨t.name.toArray⟩, .slice A0 t.labels.length p0, .slice A t.kids.length cap] 30)) w.heap.size t (.slice A0 t.labels.length p0) (.slice A t.kids.length cap) := ⟨by simp [go_sem], by simp [go_sem], by simp [go_sem], by simp [go_sem], by simp [go_sem], fun j => by simp [go_sem], by simp⟩
 have hb0 : Below w.heap.size w (w.alloc (.cells #[.int .i64 t.kind, .int .i64 t.sort, .string ⟨t.name.toArray⟩, .slice A0 t.labels.length p0, .slice A t.kids.length cap] 30)) := by go_grown
 refine (Check_any t _ _ (HZ.out.keep (by go_grown)) hf).mono ?_; rw [HE.out]; rintro e w1 ⟨rfl, hb1⟩
 obtain ⟨b0, b1, b2, b3, b4, b5, b6⟩ := hbx.keep hb1 hbx.lt
 have hb2 := chain hb0 hb1
 clear hbx
 go_wp2_with fail
 have hwr := write_any (parts t) t (.agg #[.int .i64 t.kind, .int .i64 t.sort, .string ⟨t.name.toArray⟩, .slice A0 t.labels.length p0, .slice A t.kids.length cap]) w1 (Nat.le_refl _) hp (HZ.out.keep hb2) hg (hsw.keep hb2)
 unfold TextSays at hwr
 clear hsw
 refine hwr.mono ?_; clear hwr; rintro e w2 ⟨rfl, hb3⟩
 go_wp2_with fail
 exact bodyPost_ret (v := .tuple #[.string ⟨(txt t).toArray⟩, .int .i64 0]) (by simp [results, Tryz.results32, go_sem]) rfl ⟨rfl, chain hb2 hb3⟩

set_option maxHeartbeats 1000000 in
theorem text_any (a b : Str) (e f : Int) (w : World) (h : (f ≠ 0 → e = f ∧ a = []) ∧ (f = 0 → e = 0 ∧ a = b)) :
  Calls Tryz.prog 11 #[.string ⟨a.toArray⟩, .int .i64 e, .string ⟨b.toArray⟩, .int .i64 f] w fun r w' => r = .returned (.bool true) ∧ w' = w := by
 by_cases hf : f = 0
 ·obtain ⟨rfl, rfl⟩ := h.2 hf
  subst hf
  go_enter Tryz.func11, Tryz.ntmps11
  go_wp2_with fail
  go_ret
  exact ⟨by simp, rfl⟩
 ·obtain ⟨rfl, rfl⟩ := h.1 hf
  have hb : (e != 0) = true := by rw [bne_iff_ne]; exact hf
  clear h hf
  go_enter Tryz.func11, Tryz.ntmps11
  go_wp2_with fail
  go_ret
  exact ⟨by simp, rfl⟩
set_option maxRecDepth 100000
theorem begin_fit (l : Str) (p : Nat) (hl : l.length ≤ maxLen) : Fit (rdBegin l p).1 := by
 have h0 : Fit zeroTy := fit_no
 have h1 := rdOne_fit (l := l) hl (l.length + 1) p
 unfold rdBegin
 split
 ·exact h0
 ·split
  ·exact h0
  ·rename_i hr
   rw [hr] at h1
   split
   ·exact h1
   ·exact h0
theorem parse_fit (l : Str) (hl : l.length ≤ maxLen) : Fit (rdParse l).1 := by
 have h0 : Fit zeroTy := fit_no
 unfold rdParse
 split
 ·exact h0
 ·exact begin_fit l 0 hl
theorem same5 (w : World) (q : Nat) (a b c d e : Value) : Same (· ≠ q) w (((((w.setCell ⟨q, 4, none⟩ a).setCell ⟨q, 5, none⟩ b).setCell ⟨q, 6, none⟩ c).setCell ⟨q, 7, none⟩ d).setCell ⟨q, 8, none⟩ e) := by
 have st : ∀ (w : World) (j : Nat) (u : Value), Same (· ≠ q) w (w.setCell ⟨q, j, none⟩ u) := fun w j u => Same.set (fun h => h rfl)
 have tr : ∀ {w' : World} (j : Nat) (u : Value), Same (· ≠ q) w w' ∧ w.heap.size ≤ w'.heap.size → Same (· ≠ q) w (w'.setCell ⟨q, j, none⟩ u) ∧ w.heap.size ≤ (w'.setCell ⟨q, j, none⟩ u).heap.size := fun j u h => ⟨h.1.trans h.2 (st _ j u), by rw [World.size_setCell]; exact h.2⟩
 exact (tr 8 _ (tr 7 _ (tr 6 _ (tr 5 _ (tr 4 _ ⟨Same.refl _ _, Nat.le_refl _⟩))))).1
theorem TysD.below' {D : Blocks} {w w' : World} {v : Value} {ks : List Ty} (h : TysD D w v ks) (hb : Below w.heap.size w w') : TysD D w' v ks := h.keep (Same.below hb) fun _ h _ => h
theorem write_some (t : Ty) (v : Value) (w : World) (hv : IsTy w v t) (hf : Fit t) (hsw : Sorts w) :
  Calls Tryz.prog 32 #[v] w fun e w' => (∃ s, e = .returned (.tuple #[.string s, .int .i64 (tyErr t)]) ∧ (tyErr t = 0 → s = ⟨(txt t).toArray⟩)) ∧ Below w.heap.size w w' := by
 by_cases h : tyErr t = 0
 ·refine (Write_ok t v w hv hf h hsw).mono ?_
  rintro e w' ⟨rfl, hb⟩
  exact ⟨⟨_, by rw [h], fun _ => rfl⟩, hb⟩
 ·refine (Write_bad t v w hv hf _ rfl h).mono ?_
  rintro e w' ⟨rfl, hb⟩
  exact ⟨⟨_, rfl, fun h' => absurd h' h⟩, hb⟩
theorem XBox.set_ty {w : World} {q : Nat} {e : Ev} {lv kv : Value} (h : XBox w q e lv kv) (t : Ty) (lv' kv' : Value) : XBox (((((w.setCell ⟨q, 4, none⟩ (.int .i64 t.kind)).setCell ⟨q, 5, none⟩ (.int .i64 t.sort)).setCell ⟨q, 6, none⟩ (.string ⟨t.name.toArray⟩)).setCell ⟨q, 7, none⟩ lv').setCell ⟨q, 8, none⟩ kv') q ⟨e.kind, e.vs, e.vn, e.vt, t, e.label⟩ lv' kv' := by
 have h4 := h.set (j := 4) (e' := ⟨e.kind, e.vs, e.vn, e.vt, .mk t.kind e.ty.sort e.ty.name [] [], e.label⟩) (lv' := lv) (kv' := kv) (u := .int .i64 t.kind) (fun i v hv => by rcases i with _ | _ | _ | _ | _ | _ | _ | _ | _ | _ | i <;> simp_all [Ty.kind, Ty.sort, Ty.name])
 have h5 := h4.set (j := 5) (e' := ⟨e.kind, e.vs, e.vn, e.vt, .mk t.kind t.sort e.ty.name [] [], e.label⟩) (lv' := lv) (kv' := kv) (u := .int .i64 t.sort) (fun i v hv => by rcases i with _ | _ | _ | _ | _ | _ | _ | _ | _ | _ | i <;> simp_all [Ty.kind, Ty.sort, Ty.name])
 have h6 := h5.set (j := 6) (e' := ⟨e.kind, e.vs, e.vn, e.vt, .mk t.kind t.sort t.name [] [], e.label⟩) (lv' := lv) (kv' := kv) (u := .string ⟨t.name.toArray⟩) (fun i v hv => by rcases i with _ | _ | _ | _ | _ | _ | _ | _ | _ | _ | i <;> simp_all [Ty.kind, Ty.sort, Ty.name])
 have h7 := h6.set (j := 7) (e' := ⟨e.kind, e.vs, e.vn, e.vt, .mk t.kind t.sort t.name [] [], e.label⟩) (lv' := lv') (kv' := kv) (u := lv') (fun i v hv => by rcases i with _ | _ | _ | _ | _ | _ | _ | _ | _ | _ | i <;> simp_all [Ty.kind, Ty.sort, Ty.name])
 have h8 := h7.set (j := 8) (e' := ⟨e.kind, e.vs, e.vn, e.vt, t, e.label⟩) (lv' := lv') (kv' := kv') (u := kv') (fun i v hv => by rcases i with _ | _ | _ | _ | _ | _ | _ | _ | _ | _ | i <;> simp_all [Ty.kind, Ty.sort, Ty.name])
 exact h8
set_option maxHeartbeats 4000000 in
theorem wrev_ty (l : Str) (b p : Nat) (c : UInt8) (w : World) (hl : l.length ≤ 1048576) (hc : l[p]? = some c) (hk : c.toNat = 4 ∨ c.toNat = 5) (hR : RBox w b l p) (S : World → Prop) (hS : Kept b S) (hw0 : S w) :
  Calls Tryz.prog 34 #[.pointer (some ⟨b, 0, none⟩)] w fun e w' => EvAns w b l (rdTyEv l c.toNat (p + 1)) e w' := by
 have hp1 : p + 1 ≤ l.length := at_lt hc
 have hone := fun (W : World) (hR : RBox W b l p) => wone_ok l b p c W hl hR hc
 have HONE := Lib.hid hone
 obtain ⟨c0, c1, fr, lt⟩ := id hR
 have h2 : ((c.toNat : Int) == 2) = false := by rw [beq_eq_false_iff_ne]; omega
 have h3 : ((c.toNat : Int) == 3) = false := by rw [beq_eq_false_iff_ne]; omega
 have hc256 : c.toNat < 256 := c.toNat_lt
 have hw : wrap64 (c.toNat : Int) = (c.toNat : Int) := by unfold wrap64; omega
 have HK := Lib.hid hk
 have h45 : ((c.toNat : Int) == 4) = true ∨ (((c.toNat : Int) == 4) = false ∧ ((c.toNat : Int) == 5) = true) := by
  rcases hk with h | h
  ·exact .inl (by rw [beq_iff_eq]; omega)
  ·exact .inr ⟨by rw [beq_eq_false_iff_ne]; omega, by rw [beq_iff_eq]; omega⟩
 obtain ⟨ANS, hA⟩ : ∃ x, rdTyEv l c.toNat (p + 1) = x := ⟨_, rfl⟩
 rw [hA]
 unfold rdTyEv at hA
 have HA := Lib.hid hA
 clear hone hc hk hA
 obtain ⟨K, hK⟩ : ∃ K, c.toNat = K := ⟨_, rfl⟩
 rw [hK] at h2 h3 h45 hc256 hw HONE HA HK
 clear hK c
 cases hq : rtext l (p + 1) with
 | error q =>
  rw [hq] at HA
  have hans : Except.error q = ANS := HA.out
  have HANS := Lib.hid hans
  clear HA hans
  have htext := fun (W : World) (hR : RBox W b l (p + 1)) => wrtext_any l b (p + 1) W hl hp1 hR
  rw [hq] at htext
  have HT := Lib.hid htext
  clear htext hq
  rcases h45 with h4 | ⟨h4, h5⟩
  all_goals (
   go_enter Tryz.func34, Tryz.ntmps34
   go_wp2_with fail
   have B1 : Below w.heap.size w (w.alloc (.cells (evCells ⟨0, 0, 0, [], zeroTy, []⟩ (.slice none 0 0) (.slice none 0 0)) 32)) := by go_grown
   have X1 : XBox (w.alloc (.cells (evCells ⟨0, 0, 0, [], zeroTy, []⟩ (.slice none 0 0) (.slice none 0 0)) 32)) w.heap.size ⟨0, 0, 0, [], zeroTy, []⟩ (.slice none 0 0) (.slice none 0 0) := XBox.new _ _ _ _
   have hR1 := hR.keep B1
   have hg1 := grown_belowB (grown_refl w b) B1
   have hbw : b < w.heap.size := hR.lt
   refine (HONE.out _ hR1).mono ?_
   rintro e w2 ⟨rfl, hg2, hR2⟩
   have hgw := grown_trans hg1 hg2
   have X2 := X1.grown hg2 (by omega)
   have hq1 : w.heap.size < w2.heap.size := X2.c.lt
   clear hR c0 c1 fr lt hR1 hg1 hg2 B1 X1
   obtain ⟨c0, c1, fr, lt⟩ := id hR2
   go_wp2_with fail
   have B3 : Below w2.heap.size w2 (w2.alloc (.cells (evCells ⟨K, 0, 0, [], zeroTy, []⟩ (.slice none 0 0) (.slice none 0 0)) 32)) := by go_grown
   have Y3 : XBox (w2.alloc (.cells (evCells ⟨K, 0, 0, [], zeroTy, []⟩ (.slice none 0 0) (.slice none 0 0)) 32)) w2.heap.size ⟨K, 0, 0, [], zeroTy, []⟩ (.slice none 0 0) (.slice none 0 0) := XBox.new _ _ _ _
   refine (HT.out _ (hR2.keep B3)).mono ?_
   rintro e w4 ⟨hg4, he⟩
   simp only at he
   subst he
   go_wp2_with fail
   exact ⟨rfl, by rw [← HANS.out]; exact ⟨grown_trans (grown_belowB hgw B3) hg4, rfl⟩⟩)
 | ok x =>
  obtain ⟨T, q⟩ := x
  rw [hq] at HA
  have hlen : T.length ≤ l.length := rtext_len hq
  have htext := fun (W : World) (hR : RBox W b l (p + 1)) => wrtext_any l b (p + 1) W hl hp1 hR
  rw [hq] at htext
  have HT := Lib.hid htext
  clear htext hq
  have hparse := fun (W : World) (hS : Sorts W) => Parse_any T W hS (by omega)
  have hgood := fun h => rdParse_good (l := T) h
  have hpf := parse_fit T (by unfold maxLen; omega)
  have hans : (if (rdParse T).2.1 = 0 ∧ txt (rdParse T).1 = T then (.ok (⟨K, 0, 0, [], (rdParse T).1, []⟩, q) : Except Nat (Ev × Nat)) else .error (p + 1)) = ANS := HA.out
  clear HA
  obtain ⟨TY, CC, AA, hP⟩ : ∃ t c a, rdParse T = (t, c, a) := ⟨_, _, _, rfl⟩
  rw [hP] at hparse hgood hpf hans
  simp only at hparse hgood hpf hans
  have HA := Lib.hid hans
  clear hans
  have HP := Lib.hid hparse
  have HG := Lib.hid hgood
  have HF := Lib.hid hpf
  clear hparse hgood hpf hP
  rcases h45 with h4 | ⟨h4, h5⟩
  all_goals (
   go_enter Tryz.func34, Tryz.ntmps34
   go_wp2_with fail
   have B1 : Below w.heap.size w (w.alloc (.cells (evCells ⟨0, 0, 0, [], zeroTy, []⟩ (.slice none 0 0) (.slice none 0 0)) 32)) := by go_grown
   have X1 : XBox (w.alloc (.cells (evCells ⟨0, 0, 0, [], zeroTy, []⟩ (.slice none 0 0) (.slice none 0 0)) 32)) w.heap.size ⟨0, 0, 0, [], zeroTy, []⟩ (.slice none 0 0) (.slice none 0 0) := XBox.new _ _ _ _
   have hR1 := hR.keep B1
   have hg1 := grown_belowB (grown_refl w b) B1
   have hbw : b < w.heap.size := hR.lt
   refine (HONE.out _ hR1).mono ?_
   rintro e w2 ⟨rfl, hg2, hR2⟩
   have hgw := grown_trans hg1 hg2
   have X2 := X1.grown hg2 (by omega)
   have hq1 : w.heap.size < w2.heap.size := X2.c.lt
   clear hR c0 c1 fr lt hR1 hg1 hg2 B1 X1
   obtain ⟨c0, c1, fr, lt⟩ := id hR2
   go_wp2_with fail
   have B3 : Below w2.heap.size w2 (w2.alloc (.cells (evCells ⟨K, 0, 0, [], zeroTy, []⟩ (.slice none 0 0) (.slice none 0 0)) 32)) := by go_grown
   have Y3 : XBox (w2.alloc (.cells (evCells ⟨K, 0, 0, [], zeroTy, []⟩ (.slice none 0 0) (.slice none 0 0)) 32)) w2.heap.size ⟨K, 0, 0, [], zeroTy, []⟩ (.slice none 0 0) (.slice none 0 0) := XBox.new _ _ _ _
   refine (HT.out _ (hR2.keep B3)).mono ?_
   have hgw3 := grown_belowB hgw B3
   have X3 := X2.keep B3
   clear hgw X2 hR2 B3 c0 c1 fr
   rintro e w4 ⟨hg4, he, hR4⟩
   simp only at he hR4
   subst he
   have Y4 := Y3.grown hg4 (by omega)
   have X4 := X3.grown hg4 (by omega)
   have hgw4 := grown_trans hgw3 hg4
   have hq4 : w2.heap.size < w4.heap.size := Y4.c.lt
   clear Y3 X3 hgw3 hg4
   obtain ⟨Q2, hQ2⟩ : ∃ Q, w2.heap.size = Q := ⟨_, rfl⟩
   rw [hQ2] at Y4 hq1 lt hq4
   go_wp2_with fail
   refine (HP.out w4 (hS.s _ (hS.k _ _ hw0 hgw4))).mono ?_
   rintro e w5 ⟨hb5, v, rfl, hT⟩
   have Y5 := Y4.keep hb5
   have X5 := X4.keep hb5
   have hR5 := hR4.keep hb5
   have hgw5 := grown_belowB hgw4 hb5
   have hle5 := hb5.size
   clear Y4 X4 hR4 hgw4 hb5
   clear hQ2
   obtain ⟨lv, kv, rfl, k1, k2⟩ := hT
   have K1 : Hid (StrsD (fun k => w4.heap.size ≤ k) w5 lv TY.labels) := Lib.hid k1
   have K2 : Hid (TysD (fun k => w4.heap.size ≤ k) w5 kv TY.kids) := Lib.hid k2
   obtain ⟨A1, c1, rfl, -, -⟩ := k1
   obtain ⟨A2, c2, rfl, -, -⟩ := k2
   go_wp2_with fail
   obtain ⟨W6, hW6⟩ : ∃ x, (w5.alloc (.cells #[.int .i64 TY.kind, .int .i64 TY.sort, .string ⟨TY.name.toArray⟩, .slice A1 TY.labels.length c1, .slice A2 TY.kids.length c2] 30)).alloc (.cells #[.int .i64 CC, .int .i64 AA] 37) = x := ⟨_, rfl⟩
   have hb6 : Below w5.heap.size w5 W6 := by subst hW6; go_grown
   have TB6 : VBox W6 w5.heap.size TY (.slice A1 TY.labels.length c1) (.slice A2 TY.kids.length c2) := by subst hW6; exact ⟨by simp [go_sem], by simp [go_sem], by simp [go_sem], by simp [go_sem], by simp [go_sem], fun j => by simp [go_sem], by simp; omega⟩
   have f06 : W6.cell? ⟨w5.heap.size + 1, 0, none⟩ = some (.int .i64 CC) := by subst hW6; simp [go_sem]
   rw [hW6]
   clear hW6
   have Y6 := Y5.keep hb6
   have X6 := X5.keep hb6
   have hR6 := hR5.keep hb6
   have hgw6 := grown_belowB hgw5 hb6
   have hS6 := hS.k _ _ hw0 hgw6
   replace K1 := Lib.hid (StrsD.below K1.out hb6)
   replace K2 := Lib.hid (TysD.below' K2.out hb6)
   clear Y5 X5 hR5 hgw5 hb6
   obtain ⟨F5, hF5⟩ : ∃ x, w5.heap.size = x := ⟨_, rfl⟩
   rw [hF5] at TB6 f06 hle5 ⊢
   clear hF5
   clear w5
   refine (write_some TY _ W6 (tyD_of K1.out K2.out).is HF.out (hS.s _ hS6)).mono ?_
   rintro e w7 ⟨⟨SS, rfl, hss⟩, hb7⟩
   have HSS := Lib.hid hss
   have Y7 := Y6.keep hb7
   have X7 := X6.keep hb7
   have hR7 := hR6.keep hb7
   have hgw7 := grown_belowB hgw6 hb7
   have hS7 := hS.k _ _ hw0 hgw7
   have TB7 := TB6.keep hb7 TB6.lt
   have f07 := cell_keep f06 hb7
   replace K1 := Lib.hid (StrsD.below K1.out hb7)
   replace K2 := Lib.hid (TysD.below' K2.out hb7)
   clear Y6 X6 hR6 hgw6 TB6 f06 hb7 hS6 hss
   clear W6
   obtain ⟨t0, t1, t2, t3, t4, t5, t6⟩ := id TB7
   by_cases hc0 : CC = 0
   ·subst hc0
    have hty := HG.out rfl
    have hs : SS = ⟨(txt TY).toArray⟩ := HSS.out hty
    subst hs
    rw [hty]
    have HTY := Lib.hid hty
    clear HSS HG hty
    by_cases hx : txt TY = T
    ·have hans := HA.out
     rw [if_pos ⟨rfl, hx⟩] at hans
     have HANS := Lib.hid hans
     have hx2 : (txt TY == T) = true := by rw [beq_iff_eq]; exact hx
     clear hans HA hx
     obtain ⟨y0, y1, y2, y3, y4, y5, y6, y7, y8, y9⟩ := Y7.c.box
     have yf := Y7.fr
     go_wp2_with fail
     have Y8 := Y7.set_ty TY (.slice A1 TY.labels.length c1) (.slice A2 TY.kids.length c2)
     simp only at Y8
     have X8 : XBox (((((w7.setCell ⟨Q2, 4, none⟩ (.int .i64 TY.kind)).setCell ⟨Q2, 5, none⟩ (.int .i64 TY.sort)).setCell ⟨Q2, 6, none⟩ (.string ⟨TY.name.toArray⟩)).setCell ⟨Q2, 7, none⟩ (.slice A1 TY.labels.length c1)).setCell ⟨Q2, 8, none⟩ (.slice A2 TY.kids.length c2)) w.heap.size ⟨0, 0, 0, [], zeroTy, []⟩ (.slice none 0 0) (.slice none 0 0) :=
      ((((X7.far (by simp only; omega) _).far (by simp only; omega) _).far (by simp only; omega) _).far (by simp only; omega) _).far (by simp only; omega) _
     have hR8 : RBox (((((w7.setCell ⟨Q2, 4, none⟩ (.int .i64 TY.kind)).setCell ⟨Q2, 5, none⟩ (.int .i64 TY.sort)).setCell ⟨Q2, 6, none⟩ (.string ⟨TY.name.toArray⟩)).setCell ⟨Q2, 7, none⟩ (.slice A1 TY.labels.length c1)).setCell ⟨Q2, 8, none⟩ (.slice A2 TY.kids.length c2)) b l q :=
      ((((hR7.far (by simp only; omega) _).far (by simp only; omega) _).far (by simp only; omega) _).far (by simp only; omega) _).far (by simp only; omega) _
     have hgw8 : w.grownBy (((((w7.setCell ⟨Q2, 4, none⟩ (.int .i64 TY.kind)).setCell ⟨Q2, 5, none⟩ (.int .i64 TY.sort)).setCell ⟨Q2, 6, none⟩ (.string ⟨TY.name.toArray⟩)).setCell ⟨Q2, 7, none⟩ (.slice A1 TY.labels.length c1)).setCell ⟨Q2, 8, none⟩ (.slice A2 TY.kids.length c2)) (some b) :=
      grown_far (grown_far (grown_far (grown_far (grown_far hgw7 (by simp only; omega) _) (by simp only; omega) _) (by simp only; omega) _) (by simp only; omega) _) (by simp only; omega) _
     have hs8 : Same (· ≠ Q2) w7 (((((w7.setCell ⟨Q2, 4, none⟩ (.int .i64 TY.kind)).setCell ⟨Q2, 5, none⟩ (.int .i64 TY.sort)).setCell ⟨Q2, 6, none⟩ (.string ⟨TY.name.toArray⟩)).setCell ⟨Q2, 7, none⟩ (.slice A1 TY.labels.length c1)).setCell ⟨Q2, 8, none⟩ (.slice A2 TY.kids.length c2)) := same5 _ _ _ _ _ _ _
     replace K1 := Lib.hid (StrsD.keep (D' := fun k => Q2 < k) K1.out (fun k hk hl => hs8 k (by have : w4.heap.size ≤ k := hk; omega) hl) (fun k hk _ => by have : w4.heap.size ≤ k := hk; omega))
     replace K2 := Lib.hid (TysD.keep (D' := fun k => Q2 < k) K2.out (fun k hk hl => hs8 k (by have : w4.heap.size ≤ k := hk; omega) hl) (fun k hk _ => by have : w4.heap.size ≤ k := hk; omega))
     clear Y7 X7 hR7 hgw7 hs8 y0 y1 y2 y3 y4 y5 y6 y7 y8 y9 yf t0 t1 t2 t3 t4 t5 t6 f07 TB7
     generalize (((((w7.setCell ⟨Q2, 4, none⟩ (.int .i64 TY.kind)).setCell ⟨Q2, 5, none⟩ (.int .i64 TY.sort)).setCell ⟨Q2, 6, none⟩ (.string ⟨TY.name.toArray⟩)).setCell ⟨Q2, 7, none⟩ (.slice A1 TY.labels.length c1)).setCell ⟨Q2, 8, none⟩ (.slice A2 TY.kids.length c2)) = w8 at Y8 X8 hR8 hgw8 K1 K2 ⊢
     have hS8 := hS.k _ _ hw0 hgw8
     have hfe : EvFit ⟨K, 0, 0, [], TY, []⟩ := ⟨by simp only; omega, by simp only; omega, by simp only; omega, by simp only; omega, by simp, HF.out, by simp⟩
     have hE : wchk (tyErr (⟨K, 0, 0, [], TY, []⟩ : Ev).ty) (isName (⟨K, 0, 0, [], TY, []⟩ : Ev).label) ⟨K, 0, 0, [], TY, []⟩ = 0 := by
      have hk := HK.out
      show (if (K : Int) = 2 ∨ (K : Int) = 3 then _ else if (K : Int) = 4 ∨ (K : Int) = 5 then tyErr TY else _) = _
      rw [if_neg (by omega), if_pos (by omega), HTY.out]
     refine (wcheck_any ⟨K, 0, 0, [], TY, []⟩ _ w8 ⟨_, _, rfl, StrsD.keep (D' := All) K1.out (Same.refl _ _) (fun _ _ _ => trivial), TysD.keep (D' := All) K2.out (Same.refl _ _) (fun _ _ _ => trivial)⟩ hfe (hS.t _ hS8)).mono ?_
     rw [hE]
     clear hE hfe
     rintro e w9 ⟨rfl, hb9⟩
     have X9 := X8.keep hb9
     have Y9 := Y8.keep hb9
     have hR9 := hR8.keep hb9
     have hgw9 := grown_belowB hgw8 hb9
     replace K1 := Lib.hid (StrsD.below K1.out hb9)
     replace K2 := Lib.hid (TysD.below' K2.out hb9)
     clear X8 Y8 hR8 hgw8 hb9 hS8
     clear w8
     obtain ⟨y0, y1, y2, y3, y4, y5, y6, y7, y8, y9⟩ := Y9.c.box
     obtain ⟨x0, x1, x2, x3, x4, x5, x6, x7, x8, x9⟩ := X9.c.box
     have xf := X9.fr
     go_wp2_with fail
     obtain ⟨F1, F2, F3, F4⟩ := fin_box X9 hR9 hgw9 (by omega) (Nat.le_refl _) ⟨K, 0, 0, [], TY, []⟩ (.slice A1 TY.labels.length c1) (.slice A2 TY.kids.length c2)
     simp only at F1 F2 F3 F4
     replace K1 := StrsD.keep (D' := fun k => w.heap.size ≤ k) K1.out (fun k hk hl => F4 k (by have : Q2 < k := hk; omega) hl) (fun k hk _ => by have : Q2 < k := hk; omega)
     replace K2 := TysD.keep (D' := fun k => w.heap.size ≤ k) K2.out (fun k hk hl => F4 k (by have : Q2 < k := hk; omega) hl) (fun k hk _ => by have : Q2 < k := hk; omega)
     generalize ((((((((((w9.setCell ⟨w.heap.size, 0, none⟩ (.int .i64 (K : Int))).setCell ⟨w.heap.size, 1, none⟩ (.int .i64 0)).setCell ⟨w.heap.size, 2, none⟩ (.int .i64 0)).setCell ⟨w.heap.size, 3, none⟩ (.string ⟨#[]⟩)).setCell ⟨w.heap.size, 4, none⟩ (.int .i64 TY.kind)).setCell ⟨w.heap.size, 5, none⟩ (.int .i64 TY.sort)).setCell ⟨w.heap.size, 6, none⟩ (.string ⟨TY.name.toArray⟩)).setCell ⟨w.heap.size, 7, none⟩ (.slice A1 TY.labels.length c1)).setCell ⟨w.heap.size, 8, none⟩ (.slice A2 TY.kids.length c2)).setCell ⟨w.heap.size, 9, none⟩ (.string ⟨#[]⟩)) = w10 at F1 F2 F3 F4 K1 K2 ⊢
     obtain ⟨z0, z1, z2, z3, z4, z5, z6, z7, z8, z9⟩ := F1.c.box
     refine bodyPost_ret (v := evAgg ⟨K, 0, 0, [], TY, []⟩ (.slice A1 TY.labels.length c1) (.slice A2 TY.kids.length c2)) (by simp [results, Tryz.results34, go_sem, z0, z1, z2, z3, z4, z5, z6, z7, z8, z9]) rfl ?_
     rw [← HANS.out]
     exact ⟨F3, _, rfl, ⟨_, _, rfl, K1, K2⟩, F2⟩
    ·have hans := HA.out
     rw [if_neg (fun h => hx h.2)] at hans
     have HANS := Lib.hid hans
     have hx2 : (txt TY == T) = false := by rw [beq_eq_false_iff_ne]; exact hx
     clear hans HA hx
     go_wp2_with fail
     exact ⟨rfl, by rw [← HANS.out]; exact ⟨hgw7, rfl⟩⟩
   ·have hans := HA.out
    rw [if_neg (fun h => hc0 h.1)] at hans
    have HANS := Lib.hid hans
    have hcb : (CC != 0) = true := by rw [bne_iff_ne]; exact hc0
    clear hans HA
    go_wp2_with fail
    exact ⟨rfl, by rw [← HANS.out]; exact ⟨hgw7, rfl⟩⟩)
end Go.Proofs.YtpidjanngbaiiaaGreatDoor
