/-
  Texts of types: types.write answers 'txt' (all but choices).
-/
import Derived.Test.YtpidjanngbaiiaaGreatDoorTyX2
import Derived.Test.YtpidjanngbaiiaaGreatDoorM9
namespace Go.Proofs.YtpidjanngbaiiaaGreatDoor
open Go.RowKit Go.Proofs
set_option maxRecDepth 100000

theorem sort_row {w : World} {b o : Nat} (h : StrRow w b o [[], [105, 110, 116], [98, 111, 111, 108], [116, 101, 120, 116]]) {s : Nat} (h1 : 1 ≤ s) (h3 : s ≤ 3) : w.cell? ⟨b, o + s, none⟩ = some (.string ⟨(sortWord (s : Int)).toArray⟩) := by
 refine h s _ ?_
 obtain rfl | rfl | rfl : s = 1 ∨ s = 2 ∨ s = 3 := by omega
 all_goals rfl

set_option maxHeartbeats 4000000 in
theorem write_2 (m : Nat) (ih : ∀ (t : Ty) (v : Value) (w : World), parts t ≤ m → parts t ≤ 60 → IsTy w v t → Good t → Sorts w → TextSays 67 t v w)
  (s : Nat) (c : Ty) (v : Value) (w : World) (hmc : parts c ≤ m) (h60c : parts c ≤ 60) (hgc : Good c) (hv : IsTy w v (.mk 2 s [] [] [c])) (hsw : Sorts w) (h1 : 1 ≤ s) (h3 : s ≤ 3) : TextSays 67 (.mk 2 s [] [] [c]) v w := by
 unfold TextSays
 obtain ⟨lv, kv, rfl, hs1, hs2⟩ := hv
 simp only [Ty.kind, Ty.sort, Ty.name, Ty.labels, Ty.kids] at hs1 hs2 ⊢
 obtain ⟨A0, p0, rfl, -, -⟩ := hs1
 have HK := Lib.hid hs2
 obtain ⟨A, cap, rfl, -, -⟩ := hs2
 simp only [List.length_nil, List.length_cons] at HK ⊢
 have HSW := Lib.hid hsw
 obtain ⟨gb, go, gc, g0, g4, grow⟩ := hsw
 have g1 := sort_row grow h1 h3
 have hs4 : s < 4 := by omega
 have hs4i : (s : Int) < 4 := by omega
 have hlw := sortWord_len (s : Int)
 obtain ⟨U, hU⟩ : ∃ y, sortWord (s : Int) = y := ⟨_, rfl⟩
 have HU := Lib.hid hU
 rw [hU] at hlw g1
 clear hU grow
 obtain ⟨-, -, b, off, cA, cn, cp, cB, cm, cq, rfl, c0, c1, c2, c3, c4, hl', hk'⟩ := kid_at (i := 0) (t := c) HK.out rfl
 simp only [Nat.zero_mul, Nat.one_mul, Nat.add_zero] at c0 c1 c2 c3 c4
 have HLc := Lib.hid hl'; have HKc := Lib.hid hk'; clear hl' hk'
 have hlc : (txt c).length ≤ 6000 := by have := txt_len c hgc; omega
 obtain ⟨Tc, hTc⟩ : ∃ y, txt c = y := ⟨_, rfl⟩
 have HTc := Lib.hid hTc
 rw [hTc] at hlc
 clear hTc
 obtain ⟨ANS, hA⟩ : ∃ x, txt (.mk 2 s [] [] [c]) = x := ⟨_, rfl⟩
 have HA := Lib.hid hA; rw [hA]; clear hA
 go_enter Tryz.func67, Tryz.ntmps67
 go_wp2_with fail
 obtain ⟨W, hW⟩ : ∃ W, w.alloc (.cells #[.int .i64 2, .int .i64 s, .string ⟨#[]⟩, .slice A0 0 p0, .slice (some ⟨b, off, none⟩) 1 cap] 30) = W := ⟨_, rfl⟩
 have hbW : Below w.heap.size w W := by subst hW; go_grown
 have x1 : W.cell? ⟨w.heap.size, 1, none⟩ = some (.int .i64 s) := by subst hW; simp [go_sem]
 have x4 : W.cell? ⟨w.heap.size, 4, none⟩ = some (.slice (some ⟨b, off, none⟩) 1 cap) := by subst hW; simp [go_sem]
 try rw [hW]
 clear hW
 have ec0 := cell_keep c0 hbW; have ec1 := cell_keep c1 hbW; have ec2 := cell_keep c2 hbW; have ec3 := cell_keep c3 hbW; have ec4 := cell_keep c4 hbW
 have eg0 := cell_keep g0 hbW; have eg1 := cell_keep g1 hbW
 clear g0 g1
 have hS : ∀ w' : World, Below W.heap.size W w' → (fun w' : World => w'.cell? ⟨w.heap.size, 1, none⟩ = some (.int .i64 s) ∧ w'.cell? ⟨w.heap.size, 4, none⟩ = some (.slice (some ⟨b, off, none⟩) 1 cap) ∧ w'.cell? ⟨2, 0, none⟩ = some (.slice (some ⟨gb, go, none⟩) 4 gc) ∧ w'.cell? ⟨gb, go + s, none⟩ = some (.string ⟨U.toArray⟩) ∧ w'.cell? ⟨b, off, none⟩ = some (.int .i64 c.kind) ∧ w'.cell? ⟨b, off + 1, none⟩ = some (.int .i64 c.sort) ∧ w'.cell? ⟨b, off + 2, none⟩ = some (.string ⟨c.name.toArray⟩) ∧ w'.cell? ⟨b, off + 3, none⟩ = some (.slice cA cn cp) ∧ w'.cell? ⟨b, off + 4, none⟩ = some (.slice cB cm cq)) w' := fun w' h => ⟨cell_keep x1 h, cell_keep x4 h, cell_keep eg0 h, cell_keep eg1 h, cell_keep ec0 h, cell_keep ec1 h, cell_keep ec2 h, cell_keep ec3 h, cell_keep ec4 h⟩
 have HSd := Lib.hid (hS W.drew (Below.refl _ _).drew)
 have HSB := Lib.hid hS; clear hS
 refine wp_region_T 13 (fun w' : World => w'.cell? ⟨w.heap.size, 1, none⟩ = some (.int .i64 s) ∧ w'.cell? ⟨w.heap.size, 4, none⟩ = some (.slice (some ⟨b, off, none⟩) 1 cap) ∧ w'.cell? ⟨2, 0, none⟩ = some (.slice (some ⟨gb, go, none⟩) 4 gc) ∧ w'.cell? ⟨gb, go + s, none⟩ = some (.string ⟨U.toArray⟩) ∧ w'.cell? ⟨b, off, none⟩ = some (.int .i64 c.kind) ∧ w'.cell? ⟨b, off + 1, none⟩ = some (.int .i64 c.sort) ∧ w'.cell? ⟨b, off + 2, none⟩ = some (.string ⟨c.name.toArray⟩) ∧ w'.cell? ⟨b, off + 3, none⟩ = some (.slice cA cn cp) ∧ w'.cell? ⟨b, off + 4, none⟩ = some (.slice cB cm cq)) (by kernel_rfl) ?_
 refine zT 0 ?_ rfl (Or.inl ⟨by rfl, ?_⟩) HSd.out ?_
 rotate_left
 ·(intro wq hSw; obtain ⟨_,_,_,_,_,_,_,_,_⟩ := hSw; go_simp; all_goals (first | (with_reducible rfl) | (rw [zI])))
 simp only [zA, zB, zC, Act.put, zD, zE, zF]
 refine zT 1 ?_ rfl (Or.inl ⟨by rfl, ?_⟩) HSd.out ?_
 rotate_left
 ·(intro wq hSw; obtain ⟨_,_,_,_,_,_,_,_,_⟩ := hSw; go_simp; all_goals (first | (with_reducible rfl) | (rw [zI])))
 simp only [zA, zB, zC, Act.put, zD, zE, zF]
 refine zT 2 ?_ rfl (Or.inl ⟨by rfl, ?_⟩) HSd.out ?_
 rotate_left
 ·(intro wq hSw; obtain ⟨_,_,_,_,_,_,_,_,_⟩ := hSw; go_simp; all_goals (first | (with_reducible rfl) | (rw [zI])))
 simp only [zA, zB, zC, Act.put, zD, zE, zF]
 refine zT 3 ?_ rfl (Or.inl ⟨by rfl, ?_⟩) HSd.out ?_
 rotate_left
 ·(intro wq hSw; obtain ⟨_,_,_,_,_,_,_,_,_⟩ := hSw; go_simp; all_goals (first | (with_reducible rfl) | (rw [zI])))
 simp only [zA, zB, zC, Act.put, zD, zE, zF]
 refine zT 4 ?_ rfl (Or.inl ⟨by rfl, ?_⟩) HSd.out ?_
 rotate_left
 ·(intro wq hSw; obtain ⟨_,_,_,_,_,_,_,_,_⟩ := hSw; go_simp; all_goals (first | (with_reducible rfl) | (rw [zI])))
 simp only [zA, zB, zC, Act.put, zD, zE, zF]
 refine zT 5 ?_ rfl (Or.inl ⟨by rfl, ?_⟩) HSd.out ?_
 rotate_left
 ·(intro wq hSw; obtain ⟨_,_,_,_,_,_,_,_,_⟩ := hSw; go_simp; all_goals (first | (with_reducible rfl) | (rw [zI])))
 simp only [zA, zB, zC, Act.put, zD, zE, zF]
 refine zT 6 ?_ rfl (Or.inl ⟨by rfl, ?_⟩) HSd.out ?_
 rotate_left
 ·(intro wq hSw; obtain ⟨_,_,_,_,_,_,_,_,_⟩ := hSw; go_simp; all_goals (first | (with_reducible rfl) | (rw [zI])))
 simp only [zA, zB, zC, Act.put, zD, zE, zF]
 refine zT 7 ?_ rfl (Or.inl ⟨by rfl, ?_⟩) HSd.out ?_
 rotate_left
 ·(intro wq hSw; obtain ⟨_,_,_,_,_,_,_,_,_⟩ := hSw; go_simp; all_goals (first | (with_reducible rfl) | (rw [zI])))
 simp only [zA, zB, zC, Act.put, zD, zE, zF]
 refine zT 8 ?_ rfl (Or.inl ⟨by rfl, ?_⟩) HSd.out ?_
 rotate_left
 ·(intro wq hSw; obtain ⟨_,_,_,_,_,_,_,_,_⟩ := hSw; go_simp; all_goals (first | (with_reducible rfl) | (rw [zI])))
 simp only [zA, zB, zC, Act.put, zD, zE, zF]
 refine zT 9 ?_ rfl (Or.inl ⟨by rfl, ?_⟩) HSd.out ?_
 rotate_left
 ·(intro wq hSw; obtain ⟨_,_,_,_,_,_,_,_,_⟩ := hSw; go_simp; all_goals (first | (with_reducible rfl) | (rw [zI])))
 simp only [zA, zB, zC, Act.put, zD, zE, zF]
 refine zT 10 ?_ rfl (Or.inl ⟨by rfl, ?_⟩) HSd.out ?_
 rotate_left
 ·(intro wq hSw; obtain ⟨_,_,_,_,_,_,_,_,_⟩ := hSw; go_simp; all_goals (first | (with_reducible rfl) | (rw [zI])))
 simp only [zA, zB, zC, Act.put, zD, zE, zF]
 refine zO 11 fun K hK => ?_
 go_simp
 have hcall := ih c (.agg #[.int .i64 c.kind, .int .i64 c.sort, .string ⟨c.name.toArray⟩, .slice cA cn cp, .slice cB cm cq]) W.drew hmc h60c (isTy_of ((HLc.out.keep hbW).keep (Below.refl W.heap.size W).drew) ((HKc.out.keep hbW).keep (Below.refl W.heap.size W).drew)) hgc ((HSW.out.keep hbW).keep (Below.refl W.heap.size W).drew)
 unfold TextSays at hcall
 refine hcall.mono ?_; clear hcall; rw [HTc.out]; rintro e w1 ⟨rfl, hq⟩
 have hb1 := chain (Below.refl W.heap.size W).drew hq
 clear hq
 refine hK.out _ _ (fun _ => HSB.out _ hb1) ?_
 clear hK K
 try simp only [zA, zB, zC, Act.put, zD, zE, zF]
 refine zT 12 ?_ rfl (Or.inl ⟨by rfl, ?_⟩) (HSB.out _ hb1) ?_
 rotate_left
 ·(intro wq hSw; obtain ⟨_,_,_,_,_,_,_,_,_⟩ := hSw; go_simp; all_goals (first | (with_reducible rfl) | (rw [zI])))
 simp only [zA, zB, zC, Act.put, zD, zE, zF]
 refine zO 13 fun K hK => ?_
 go_simp
 refine hK.out _ _ (fun h => absurd h (by decide)) ?_
 clear hK K
 try simp only [zA, zB, zC, Act.put, zD, zE, zF]
 refine wpT_done (by kernel_rfl) ?_
 go_wp2_with fail
 go_ret
 refine ⟨?_, chain hbW hb1⟩
 rw [← HA.out]
 simp [txt, txtOf, txts, HTc.out, HU.out]

set_option maxHeartbeats 4000000 in
theorem write_3 (m : Nat) (ih : ∀ (t : Ty) (v : Value) (w : World), parts t ≤ m → parts t ≤ 60 → IsTy w v t → Good t → Sorts w → TextSays 67 t v w)
  (s : Nat) (c : Ty) (v : Value) (w : World) (hmc : parts c ≤ m) (h60c : parts c ≤ 60) (hgc : Good c) (hv : IsTy w v (.mk 3 s [] [] [c])) (hsw : Sorts w) (h1 : 1 ≤ s) (h3 : s ≤ 3) : TextSays 67 (.mk 3 s [] [] [c]) v w := by
 unfold TextSays
 obtain ⟨lv, kv, rfl, hs1, hs2⟩ := hv
 simp only [Ty.kind, Ty.sort, Ty.name, Ty.labels, Ty.kids] at hs1 hs2 ⊢
 obtain ⟨A0, p0, rfl, -, -⟩ := hs1
 have HK := Lib.hid hs2
 obtain ⟨A, cap, rfl, -, -⟩ := hs2
 simp only [List.length_nil, List.length_cons] at HK ⊢
 have HSW := Lib.hid hsw
 obtain ⟨gb, go, gc, g0, g4, grow⟩ := hsw
 have g1 := sort_row grow h1 h3
 have hs4 : s < 4 := by omega
 have hs4i : (s : Int) < 4 := by omega
 have hlw := sortWord_len (s : Int)
 obtain ⟨U, hU⟩ : ∃ y, sortWord (s : Int) = y := ⟨_, rfl⟩
 have HU := Lib.hid hU
 rw [hU] at hlw g1
 clear hU grow
 obtain ⟨-, -, b, off, cA, cn, cp, cB, cm, cq, rfl, c0, c1, c2, c3, c4, hl', hk'⟩ := kid_at (i := 0) (t := c) HK.out rfl
 simp only [Nat.zero_mul, Nat.one_mul, Nat.add_zero] at c0 c1 c2 c3 c4
 have HLc := Lib.hid hl'; have HKc := Lib.hid hk'; clear hl' hk'
 have hlc : (txt c).length ≤ 6000 := by have := txt_len c hgc; omega
 obtain ⟨Tc, hTc⟩ : ∃ y, txt c = y := ⟨_, rfl⟩
 have HTc := Lib.hid hTc
 rw [hTc] at hlc
 clear hTc
 obtain ⟨ANS, hA⟩ : ∃ x, txt (.mk 3 s [] [] [c]) = x := ⟨_, rfl⟩
 have HA := Lib.hid hA; rw [hA]; clear hA
 go_enter Tryz.func67, Tryz.ntmps67
 go_wp2_with fail
 obtain ⟨W, hW⟩ : ∃ W, w.alloc (.cells #[.int .i64 3, .int .i64 s, .string ⟨#[]⟩, .slice A0 0 p0, .slice (some ⟨b, off, none⟩) 1 cap] 30) = W := ⟨_, rfl⟩
 have hbW : Below w.heap.size w W := by subst hW; go_grown
 have x1 : W.cell? ⟨w.heap.size, 1, none⟩ = some (.int .i64 s) := by subst hW; simp [go_sem]
 have x4 : W.cell? ⟨w.heap.size, 4, none⟩ = some (.slice (some ⟨b, off, none⟩) 1 cap) := by subst hW; simp [go_sem]
 try rw [hW]
 clear hW
 have ec0 := cell_keep c0 hbW; have ec1 := cell_keep c1 hbW; have ec2 := cell_keep c2 hbW; have ec3 := cell_keep c3 hbW; have ec4 := cell_keep c4 hbW
 have eg0 := cell_keep g0 hbW; have eg1 := cell_keep g1 hbW
 clear g0 g1
 have hS : ∀ w' : World, Below W.heap.size W w' → (fun w' : World => w'.cell? ⟨w.heap.size, 1, none⟩ = some (.int .i64 s) ∧ w'.cell? ⟨w.heap.size, 4, none⟩ = some (.slice (some ⟨b, off, none⟩) 1 cap) ∧ w'.cell? ⟨2, 0, none⟩ = some (.slice (some ⟨gb, go, none⟩) 4 gc) ∧ w'.cell? ⟨gb, go + s, none⟩ = some (.string ⟨U.toArray⟩) ∧ w'.cell? ⟨b, off, none⟩ = some (.int .i64 c.kind) ∧ w'.cell? ⟨b, off + 1, none⟩ = some (.int .i64 c.sort) ∧ w'.cell? ⟨b, off + 2, none⟩ = some (.string ⟨c.name.toArray⟩) ∧ w'.cell? ⟨b, off + 3, none⟩ = some (.slice cA cn cp) ∧ w'.cell? ⟨b, off + 4, none⟩ = some (.slice cB cm cq)) w' := fun w' h => ⟨cell_keep x1 h, cell_keep x4 h, cell_keep eg0 h, cell_keep eg1 h, cell_keep ec0 h, cell_keep ec1 h, cell_keep ec2 h, cell_keep ec3 h, cell_keep ec4 h⟩
 have HSd := Lib.hid (hS W.drew (Below.refl _ _).drew)
 have HSB := Lib.hid hS; clear hS
 refine wp_region_T 13 (fun w' : World => w'.cell? ⟨w.heap.size, 1, none⟩ = some (.int .i64 s) ∧ w'.cell? ⟨w.heap.size, 4, none⟩ = some (.slice (some ⟨b, off, none⟩) 1 cap) ∧ w'.cell? ⟨2, 0, none⟩ = some (.slice (some ⟨gb, go, none⟩) 4 gc) ∧ w'.cell? ⟨gb, go + s, none⟩ = some (.string ⟨U.toArray⟩) ∧ w'.cell? ⟨b, off, none⟩ = some (.int .i64 c.kind) ∧ w'.cell? ⟨b, off + 1, none⟩ = some (.int .i64 c.sort) ∧ w'.cell? ⟨b, off + 2, none⟩ = some (.string ⟨c.name.toArray⟩) ∧ w'.cell? ⟨b, off + 3, none⟩ = some (.slice cA cn cp) ∧ w'.cell? ⟨b, off + 4, none⟩ = some (.slice cB cm cq)) (by kernel_rfl) ?_
 refine zT 0 ?_ rfl (Or.inl ⟨by rfl, ?_⟩) HSd.out ?_
 rotate_left
 ·(intro wq hSw; obtain ⟨_,_,_,_,_,_,_,_,_⟩ := hSw; go_simp; all_goals (first | (with_reducible rfl) | (rw [zI])))
 simp only [zA, zB, zC, Act.put, zD, zE, zF]
 refine zT 1 ?_ rfl (Or.inl ⟨by rfl, ?_⟩) HSd.out ?_
 rotate_left
 ·(intro wq hSw; obtain ⟨_,_,_,_,_,_,_,_,_⟩ := hSw; go_simp; all_goals (first | (with_reducible rfl) | (rw [zI])))
 simp only [zA, zB, zC, Act.put, zD, zE, zF]
 refine zT 2 ?_ rfl (Or.inl ⟨by rfl, ?_⟩) HSd.out ?_
 rotate_left
 ·(intro wq hSw; obtain ⟨_,_,_,_,_,_,_,_,_⟩ := hSw; go_simp; all_goals (first | (with_reducible rfl) | (rw [zI])))
 simp only [zA, zB, zC, Act.put, zD, zE, zF]
 refine zT 3 ?_ rfl (Or.inl ⟨by rfl, ?_⟩) HSd.out ?_
 rotate_left
 ·(intro wq hSw; obtain ⟨_,_,_,_,_,_,_,_,_⟩ := hSw; go_simp; all_goals (first | (with_reducible rfl) | (rw [zI])))
 simp only [zA, zB, zC, Act.put, zD, zE, zF]
 refine zT 4 ?_ rfl (Or.inl ⟨by rfl, ?_⟩) HSd.out ?_
 rotate_left
 ·(intro wq hSw; obtain ⟨_,_,_,_,_,_,_,_,_⟩ := hSw; go_simp; all_goals (first | (with_reducible rfl) | (rw [zI])))
 simp only [zA, zB, zC, Act.put, zD, zE, zF]
 refine zT 5 ?_ rfl (Or.inl ⟨by rfl, ?_⟩) HSd.out ?_
 rotate_left
 ·(intro wq hSw; obtain ⟨_,_,_,_,_,_,_,_,_⟩ := hSw; go_simp; all_goals (first | (with_reducible rfl) | (rw [zI])))
 simp only [zA, zB, zC, Act.put, zD, zE, zF]
 refine zT 6 ?_ rfl (Or.inl ⟨by rfl, ?_⟩) HSd.out ?_
 rotate_left
 ·(intro wq hSw; obtain ⟨_,_,_,_,_,_,_,_,_⟩ := hSw; go_simp; all_goals (first | (with_reducible rfl) | (rw [zI])))
 simp only [zA, zB, zC, Act.put, zD, zE, zF]
 refine zT 7 ?_ rfl (Or.inl ⟨by rfl, ?_⟩) HSd.out ?_
 rotate_left
 ·(intro wq hSw; obtain ⟨_,_,_,_,_,_,_,_,_⟩ := hSw; go_simp; all_goals (first | (with_reducible rfl) | (rw [zI])))
 simp only [zA, zB, zC, Act.put, zD, zE, zF]
 refine zT 8 ?_ rfl (Or.inl ⟨by rfl, ?_⟩) HSd.out ?_
 rotate_left
 ·(intro wq hSw; obtain ⟨_,_,_,_,_,_,_,_,_⟩ := hSw; go_simp; all_goals (first | (with_reducible rfl) | (rw [zI])))
 simp only [zA, zB, zC, Act.put, zD, zE, zF]
 refine zT 9 ?_ rfl (Or.inl ⟨by rfl, ?_⟩) HSd.out ?_
 rotate_left
 ·(intro wq hSw; obtain ⟨_,_,_,_,_,_,_,_,_⟩ := hSw; go_simp; all_goals (first | (with_reducible rfl) | (rw [zI])))
 simp only [zA, zB, zC, Act.put, zD, zE, zF]
 refine zT 10 ?_ rfl (Or.inl ⟨by rfl, ?_⟩) HSd.out ?_
 rotate_left
 ·(intro wq hSw; obtain ⟨_,_,_,_,_,_,_,_,_⟩ := hSw; go_simp; all_goals (first | (with_reducible rfl) | (rw [zI])))
 simp only [zA, zB, zC, Act.put, zD, zE, zF]
 refine zO 11 fun K hK => ?_
 go_simp
 have hcall := ih c (.agg #[.int .i64 c.kind, .int .i64 c.sort, .string ⟨c.name.toArray⟩, .slice cA cn cp, .slice cB cm cq]) W.drew hmc h60c (isTy_of ((HLc.out.keep hbW).keep (Below.refl W.heap.size W).drew) ((HKc.out.keep hbW).keep (Below.refl W.heap.size W).drew)) hgc ((HSW.out.keep hbW).keep (Below.refl W.heap.size W).drew)
 unfold TextSays at hcall
 refine hcall.mono ?_; clear hcall; rw [HTc.out]; rintro e w1 ⟨rfl, hq⟩
 have hb1 := chain (Below.refl W.heap.size W).drew hq
 clear hq
 refine hK.out _ _ (fun _ => HSB.out _ hb1) ?_
 clear hK K
 try simp only [zA, zB, zC, Act.put, zD, zE, zF]
 refine zT 12 ?_ rfl (Or.inl ⟨by rfl, ?_⟩) (HSB.out _ hb1) ?_
 rotate_left
 ·(intro wq hSw; obtain ⟨_,_,_,_,_,_,_,_,_⟩ := hSw; go_simp; all_goals (first | (with_reducible rfl) | (rw [zI])))
 simp only [zA, zB, zC, Act.put, zD, zE, zF]
 refine zO 13 fun K hK => ?_
 go_simp
 refine hK.out _ _ (fun h => absurd h (by decide)) ?_
 clear hK K
 try simp only [zA, zB, zC, Act.put, zD, zE, zF]
 refine wpT_done (by kernel_rfl) ?_
 go_wp2_with fail
 go_ret
 refine ⟨?_, chain hbW hb1⟩
 rw [← HA.out]
 simp [txt, txtOf, txts, HTc.out, HU.out]

set_option maxHeartbeats 4000000 in
theorem write_8 (m : Nat) (ih : ∀ (t : Ty) (v : Value) (w : World), parts t ≤ m → parts t ≤ 60 → IsTy w v t → Good t → Sorts w → TextSays 67 t v w)
  (n : Str) (c : Ty) (v : Value) (w : World) (hmc : parts c ≤ m) (h60c : parts c ≤ 60) (hgc : Good c) (hv : IsTy w v (.mk 8 0 n [] [c])) (hsw : Sorts w) (hn : n.length ≤ 8) : TextSays 67 (.mk 8 0 n [] [c]) v w := by
 unfold TextSays
 obtain ⟨lv, kv, rfl, hs1, hs2⟩ := hv
 simp only [Ty.kind, Ty.sort, Ty.name, Ty.labels, Ty.kids] at hs1 hs2 ⊢
 obtain ⟨A0, p0, rfl, -, -⟩ := hs1
 have HK := Lib.hid hs2
 obtain ⟨A, cap, rfl, -, -⟩ := hs2
 simp only [List.length_nil, List.length_cons] at HK ⊢
 have HSW := Lib.hid hsw
 clear hsw
 obtain ⟨-, -, b, off, cA, cn, cp, cB, cm, cq, rfl, c0, c1, c2, c3, c4, hl', hk'⟩ := kid_at (i := 0) (t := c) HK.out rfl
 simp only [Nat.zero_mul, Nat.one_mul, Nat.add_zero] at c0 c1 c2 c3 c4
 have HLc := Lib.hid hl'; have HKc := Lib.hid hk'; clear hl' hk'
 have hlc : (txt c).length ≤ 6000 := by have := txt_len c hgc; omega
 obtain ⟨Tc, hTc⟩ : ∃ y, txt c = y := ⟨_, rfl⟩
 have HTc := Lib.hid hTc
 rw [hTc] at hlc
 clear hTc
 obtain ⟨ANS, hA⟩ : ∃ x, txt (.mk 8 0 n [] [c]) = x := ⟨_, rfl⟩
 have HA := Lib.hid hA; rw [hA]; clear hA
 go_enter Tryz.func67, Tryz.ntmps67
 go_wp2_with fail
 obtain ⟨W, hW⟩ : ∃ W, w.alloc (.cells #[.int .i64 8, .int .i64 0, .string ⟨n.toArray⟩, .slice A0 0 p0, .slice (some ⟨b, off, none⟩) 1 cap] 30) = W := ⟨_, rfl⟩
 have hbW : Below w.heap.size w W := by subst hW; go_grown
 have x2 : W.cell? ⟨w.heap.size, 2, none⟩ = some (.string ⟨n.toArray⟩) := by subst hW; simp [go_sem]
 have x4 : W.cell? ⟨w.heap.size, 4, none⟩ = some (.slice (some ⟨b, off, none⟩) 1 cap) := by subst hW; simp [go_sem]
 try rw [hW]
 clear hW
 have ec0 := cell_keep c0 hbW; have ec1 := cell_keep c1 hbW; have ec2 := cell_keep c2 hbW; have ec3 := cell_keep c3 hbW; have ec4 := cell_keep c4 hbW
 have hS : ∀ w' : World, Below W.heap.size W w' → (fun w' : World => w'.cell? ⟨w.heap.size, 2, none⟩ = some (.string ⟨n.toArray⟩) ∧ w'.cell? ⟨w.heap.size, 4, none⟩ = some (.slice (some ⟨b, off, none⟩) 1 cap) ∧ w'.cell? ⟨b, off, none⟩ = some (.int .i64 c.kind) ∧ w'.cell? ⟨b, off + 1, none⟩ = some (.int .i64 c.sort) ∧ w'.cell? ⟨b, off + 2, none⟩ = some (.string ⟨c.name.toArray⟩) ∧ w'.cell? ⟨b, off + 3, none⟩ = some (.slice cA cn cp) ∧ w'.cell? ⟨b, off + 4, none⟩ = some (.slice cB cm cq)) w' := fun w' h => ⟨cell_keep x2 h, cell_keep x4 h, cell_keep ec0 h, cell_keep ec1 h, cell_keep ec2 h, cell_keep ec3 h, cell_keep ec4 h⟩
 have HSd := Lib.hid (hS W.drew (Below.refl _ _).drew)
 have HSB := Lib.hid hS; clear hS
 refine wp_region_T 10 (fun w' : World => w'.cell? ⟨w.heap.size, 2, none⟩ = some (.string ⟨n.toArray⟩) ∧ w'.cell? ⟨w.heap.size, 4, none⟩ = some (.slice (some ⟨b, off, none⟩) 1 cap) ∧ w'.cell? ⟨b, off, none⟩ = some (.int .i64 c.kind) ∧ w'.cell? ⟨b, off + 1, none⟩ = some (.int .i64 c.sort) ∧ w'.cell? ⟨b, off + 2, none⟩ = some (.string ⟨c.name.toArray⟩) ∧ w'.cell? ⟨b, off + 3, none⟩ = some (.slice cA cn cp) ∧ w'.cell? ⟨b, off + 4, none⟩ = some (.slice cB cm cq)) (by kernel_rfl) ?_
 refine zT 0 ?_ rfl (Or.inl ⟨by rfl, ?_⟩) HSd.out ?_
 rotate_left
 ·(intro wq hSw; obtain ⟨_,_,_,_,_,_,_⟩ := hSw; go_simp; all_goals (first | (with_reducible rfl) | (rw [zI])))
 simp only [zA, zB, zC, Act.put, zD, zE, zF]
 refine zT 1 ?_ rfl (Or.inl ⟨by rfl, ?_⟩) HSd.out ?_
 rotate_left
 ·(intro wq hSw; obtain ⟨_,_,_,_,_,_,_⟩ := hSw; go_simp; all_goals (first | (with_reducible rfl) | (rw [zI])))
 simp only [zA, zB, zC, Act.put, zD, zE, zF]
 refine zT 2 ?_ rfl (Or.inl ⟨by rfl, ?_⟩) HSd.out ?_
 rotate_left
 ·(intro wq hSw; obtain ⟨_,_,_,_,_,_,_⟩ := hSw; go_simp; all_goals (first | (with_reducible rfl) | (rw [zI])))
 simp only [zA, zB, zC, Act.put, zD, zE, zF]
 refine zT 3 ?_ rfl (Or.inl ⟨by rfl, ?_⟩) HSd.out ?_
 rotate_left
 ·(intro wq hSw; obtain ⟨_,_,_,_,_,_,_⟩ := hSw; go_simp; all_goals (first | (with_reducible rfl) | (rw [zI])))
 simp only [zA, zB, zC, Act.put, zD, zE, zF]
 refine zT 4 ?_ rfl (Or.inl ⟨by rfl, ?_⟩) HSd.out ?_
 rotate_left
 ·(intro wq hSw; obtain ⟨_,_,_,_,_,_,_⟩ := hSw; go_simp; all_goals (first | (with_reducible rfl) | (rw [zI])))
 simp only [zA, zB, zC, Act.put, zD, zE, zF]
 refine zT 5 ?_ rfl (Or.inl ⟨by rfl, ?_⟩) HSd.out ?_
 rotate_left
 ·(intro wq hSw; obtain ⟨_,_,_,_,_,_,_⟩ := hSw; go_simp; all_goals (first | (with_reducible rfl) | (rw [zI])))
 simp only [zA, zB, zC, Act.put, zD, zE, zF]
 refine zT 6 ?_ rfl (Or.inl ⟨by rfl, ?_⟩) HSd.out ?_
 rotate_left
 ·(intro wq hSw; obtain ⟨_,_,_,_,_,_,_⟩ := hSw; go_simp; all_goals (first | (with_reducible rfl) | (rw [zI])))
 simp only [zA, zB, zC, Act.put, zD, zE, zF]
 refine zT 7 ?_ rfl (Or.inl ⟨by rfl, ?_⟩) HSd.out ?_
 rotate_left
 ·(intro wq hSw; obtain ⟨_,_,_,_,_,_,_⟩ := hSw; go_simp; all_goals (first | (with_reducible rfl) | (rw [zI])))
 simp only [zA, zB, zC, Act.put, zD, zE, zF]
 refine zO 8 fun K hK => ?_
 go_simp
 have hcall := ih c (.agg #[.int .i64 c.kind, .int .i64 c.sort, .string ⟨c.name.toArray⟩, .slice cA cn cp, .slice cB cm cq]) W.drew hmc h60c (isTy_of ((HLc.out.keep hbW).keep (Below.refl W.heap.size W).drew) ((HKc.out.keep hbW).keep (Below.refl W.heap.size W).drew)) hgc ((HSW.out.keep hbW).keep (Below.refl W.heap.size W).drew)
 unfold TextSays at hcall
 refine hcall.mono ?_; clear hcall; rw [HTc.out]; rintro e w1 ⟨rfl, hq⟩
 have hb1 := chain (Below.refl W.heap.size W).drew hq
 clear hq
 refine hK.out _ _ (fun _ => HSB.out _ hb1) ?_
 clear hK K
 try simp only [zA, zB, zC, Act.put, zD, zE, zF]
 refine zT 9 ?_ rfl (Or.inl ⟨by rfl, ?_⟩) (HSB.out _ hb1) ?_
 rotate_left
 ·(intro wq hSw; obtain ⟨_,_,_,_,_,_,_⟩ := hSw; go_simp; all_goals (first | (with_reducible rfl) | (rw [zI])))
 simp only [zA, zB, zC, Act.put, zD, zE, zF]
 refine zO 10 fun K hK => ?_
 go_simp
 refine hK.out _ _ (fun h => absurd h (by decide)) ?_
 clear hK K
 try simp only [zA, zB, zC, Act.put, zD, zE, zF]
 refine wpT_done (by kernel_rfl) ?_
 go_wp2_with fail
 go_ret
 refine ⟨?_, chain hbW hb1⟩
 rw [← HA.out]
 simp [txt, txtOf, txts, HTc.out]

set_option maxHeartbeats 4000000 in
theorem write_4 (m : Nat) (ih : ∀ (t : Ty) (v : Value) (w : World), parts t ≤ m → parts t ≤ 60 → IsTy w v t → Good t → Sorts w → TextSays 67 t v w)
  (c d : Ty) (v : Value) (w : World) (hmc : parts c ≤ m) (h60c : parts c ≤ 60) (hgc : Good c) (hmd : parts d ≤ m) (h60d : parts d ≤ 60) (hgd : Good d) (hv : IsTy w v (.mk 4 0 [] [] [c, d])) (hsw : Sorts w)  : TextSays 67 (.mk 4 0 [] [] [c, d]) v w := by
 unfold TextSays
 obtain ⟨lv, kv, rfl, hs1, hs2⟩ := hv
 simp only [Ty.kind, Ty.sort, Ty.name, Ty.labels, Ty.kids] at hs1 hs2 ⊢
 obtain ⟨A0, p0, rfl, -, -⟩ := hs1
 have HK := Lib.hid hs2
 obtain ⟨A, cap, rfl, -, -⟩ := hs2
 simp only [List.length_nil, List.length_cons] at HK ⊢
 have HSW := Lib.hid hsw
 clear hsw
 obtain ⟨-, -, b, off, cA, cn, cp, cB, cm, cq, rfl, c0, c1, c2, c3, c4, hl', hk'⟩ := kid_at (i := 0) (t := c) HK.out rfl
 simp only [Nat.zero_mul, Nat.one_mul, Nat.add_zero] at c0 c1 c2 c3 c4
 have HLc := Lib.hid hl'; have HKc := Lib.hid hk'; clear hl' hk'
 have hlc : (txt c).length ≤ 6000 := by have := txt_len c hgc; omega
 obtain ⟨Tc, hTc⟩ : ∃ y, txt c = y := ⟨_, rfl⟩
 have HTc := Lib.hid hTc
 rw [hTc] at hlc
 clear hTc
 obtain ⟨-, -, b2, off2, dA, dn, dp, dB, dm, dq, eA, d0, d1, d2, d3, d4, hl', hk'⟩ := kid_at (i := 1) (t := d) HK.out rfl
 cases eA
 simp only [Nat.zero_mul, Nat.one_mul, Nat.add_zero] at d0 d1 d2 d3 d4
 have HLd := Lib.hid hl'; have HKd := Lib.hid hk'; clear hl' hk'
 have hld : (txt d).length ≤ 6000 := by have := txt_len d hgd; omega
 obtain ⟨Td, hTd⟩ : ∃ y, txt d = y := ⟨_, rfl⟩
 have HTd := Lib.hid hTd
 rw [hTd] at hld
 clear hTd
 obtain ⟨ANS, hA⟩ : ∃ x, txt (.mk 4 0 [] [] [c, d]) = x := ⟨_, rfl⟩
 have HA := Lib.hid hA; rw [hA]; clear hA
 go_enter Tryz.func67, Tryz.ntmps67
 go_wp2_with fail
 obtain ⟨W, hW⟩ : ∃ W, w.alloc (.cells #[.int .i64 4, .int .i64 0, .string ⟨#[]⟩, .slice A0 0 p0, .slice (some ⟨b, off, none⟩) 2 cap] 30) = W := ⟨_, rfl⟩
 have hbW : Below w.heap.size w W := by subst hW; go_grown
 have x4 : W.cell? ⟨w.heap.size, 4, none⟩ = some (.slice (some ⟨b, off, none⟩) 2 cap) := by subst hW; simp [go_sem]
 try rw [hW]
 clear hW
 have ec0 := cell_keep c0 hbW; have ec1 := cell_keep c1 hbW; have ec2 := cell_keep c2 hbW; have ec3 := cell_keep c3 hbW; have ec4 := cell_keep c4 hbW
 have ed0 := cell_keep d0 hbW; have ed1 := cell_keep d1 hbW; have ed2 := cell_keep d2 hbW; have ed3 := cell_keep d3 hbW; have ed4 := cell_keep d4 hbW
 have hS : ∀ w' : World, Below W.heap.size W w' → (fun w' : World => w'.cell? ⟨w.heap.size, 4, none⟩ = some (.slice (some ⟨b, off, none⟩) 2 cap) ∧ w'.cell? ⟨b, off, none⟩ = some (.int .i64 c.kind) ∧ w'.cell? ⟨b, off + 1, none⟩ = some (.int .i64 c.sort) ∧ w'.cell? ⟨b, off + 2, none⟩ = some (.string ⟨c.name.toArray⟩) ∧ w'.cell? ⟨b, off + 3, none⟩ = some (.slice cA cn cp) ∧ w'.cell? ⟨b, off + 4, none⟩ = some (.slice cB cm cq) ∧ w'.cell? ⟨b, off + 5, none⟩ = some (.int .i64 d.kind) ∧ w'.cell? ⟨b, off + 5 + 1, none⟩ = some (.int .i64 d.sort) ∧ w'.cell? ⟨b, off + 5 + 2, none⟩ = some (.string ⟨d.name.toArray⟩) ∧ w'.cell? ⟨b, off + 5 + 3, none⟩ = some (.slice dA dn dp) ∧ w'.cell? ⟨b, off + 5 + 4, none⟩ = some (.slice dB dm dq)) w' := fun w' h => ⟨cell_keep x4 h, cell_keep ec0 h, cell_keep ec1 h, cell_keep ec2 h, cell_keep ec3 h, cell_keep ec4 h, cell_keep ed0 h, cell_keep ed1 h, cell_keep ed2 h, cell_keep ed3 h, cell_keep ed4 h⟩
 have HSd := Lib.hid (hS W.drew (Below.refl _ _).drew)
 have HSB := Lib.hid hS; clear hS
 refine wp_region_T 13 (fun w' : World => w'.cell? ⟨w.heap.size, 4, none⟩ = some (.slice (some ⟨b, off, none⟩) 2 cap) ∧ w'.cell? ⟨b, off, none⟩ = some (.int .i64 c.kind) ∧ w'.cell? ⟨b, off + 1, none⟩ = some (.int .i64 c.sort) ∧ w'.cell? ⟨b, off + 2, none⟩ = some (.string ⟨c.name.toArray⟩) ∧ w'.cell? ⟨b, off + 3, none⟩ = some (.slice cA cn cp) ∧ w'.cell? ⟨b, off + 4, none⟩ = some (.slice cB cm cq) ∧ w'.cell? ⟨b, off + 5, none⟩ = some (.int .i64 d.kind) ∧ w'.cell? ⟨b, off + 5 + 1, none⟩ = some (.int .i64 d.sort) ∧ w'.cell? ⟨b, off + 5 + 2, none⟩ = some (.string ⟨d.name.toArray⟩) ∧ w'.cell? ⟨b, off + 5 + 3, none⟩ = some (.slice dA dn dp) ∧ w'.cell? ⟨b, off + 5 + 4, none⟩ = some (.slice dB dm dq)) (by kernel_rfl) ?_
 refine zT 0 ?_ rfl (Or.inl ⟨by rfl, ?_⟩) HSd.out ?_
 rotate_left
 ·(intro wq hSw; obtain ⟨_,_,_,_,_,_,_,_,_,_,_⟩ := hSw; go_simp; all_goals (first | (with_reducible rfl) | (rw [zI])))
 simp only [zA, zB, zC, Act.put, zD, zE, zF]
 refine zT 1 ?_ rfl (Or.inl ⟨by rfl, ?_⟩) HSd.out ?_
 rotate_left
 ·(intro wq hSw; obtain ⟨_,_,_,_,_,_,_,_,_,_,_⟩ := hSw; go_simp; all_goals (first | (with_reducible rfl) | (rw [zI])))
 simp only [zA, zB, zC, Act.put, zD, zE, zF]
 refine zT 2 ?_ rfl (Or.inl ⟨by rfl, ?_⟩) HSd.out ?_
 rotate_left
 ·(intro wq hSw; obtain ⟨_,_,_,_,_,_,_,_,_,_,_⟩ := hSw; go_simp; all_goals (first | (with_reducible rfl) | (rw [zI])))
 simp only [zA, zB, zC, Act.put, zD, zE, zF]
 refine zT 3 ?_ rfl (Or.inl ⟨by rfl, ?_⟩) HSd.out ?_
 rotate_left
 ·(intro wq hSw; obtain ⟨_,_,_,_,_,_,_,_,_,_,_⟩ := hSw; go_simp; all_goals (first | (with_reducible rfl) | (rw [zI])))
 simp only [zA, zB, zC, Act.put, zD, zE, zF]
 refine zT 7 ?_ rfl (Or.inl ⟨by rfl, ?_⟩) HSd.out ?_
 rotate_left
 ·(intro wq hSw; obtain ⟨_,_,_,_,_,_,_,_,_,_,_⟩ := hSw; go_simp; all_goals (first | (with_reducible rfl) | (rw [zI])))
 simp only [zA, zB, zC, Act.put, zD, zE, zF]
 refine zT 8 ?_ rfl (Or.inl ⟨by rfl, ?_⟩) HSd.out ?_
 rotate_left
 ·(intro wq hSw; obtain ⟨_,_,_,_,_,_,_,_,_,_,_⟩ := hSw; go_simp; all_goals (first | (with_reducible rfl) | (rw [zI])))
 simp only [zA, zB, zC, Act.put, zD, zE, zF]
 refine zT 9 ?_ rfl (Or.inl ⟨by rfl, ?_⟩) HSd.out ?_
 rotate_left
 ·(intro wq hSw; obtain ⟨_,_,_,_,_,_,_,_,_,_,_⟩ := hSw; go_simp; all_goals (first | (with_reducible rfl) | (rw [zI])))
 simp only [zA, zB, zC, Act.put, zD, zE, zF]
 refine zT 10 ?_ rfl (Or.inl ⟨by rfl, ?_⟩) HSd.out ?_
 rotate_left
 ·(intro wq hSw; obtain ⟨_,_,_,_,_,_,_,_,_,_,_⟩ := hSw; go_simp; all_goals (first | (with_reducible rfl) | (rw [zI])))
 simp only [zA, zB, zC, Act.put, zD, zE, zF]
 refine zO 4 fun K hK => ?_
 go_simp
 have hcall := ih c (.agg #[.int .i64 c.kind, .int .i64 c.sort, .string ⟨c.name.toArray⟩, .slice cA cn cp, .slice cB cm cq]) W.drew hmc h60c (isTy_of ((HLc.out.keep hbW).keep (Below.refl W.heap.size W).drew) ((HKc.out.keep hbW).keep (Below.refl W.heap.size W).drew)) hgc ((HSW.out.keep hbW).keep (Below.refl W.heap.size W).drew)
 unfold TextSays at hcall
 refine hcall.mono ?_; clear hcall; rw [HTc.out]; rintro e w1 ⟨rfl, hq⟩
 have hb1 := chain (Below.refl W.heap.size W).drew hq
 clear hq
 refine hK.out _ _ (fun _ => HSB.out _ hb1) ?_
 clear hK K
 try simp only [zA, zB, zC, Act.put, zD, zE, zF]
 refine zT 5 ?_ rfl (Or.inl ⟨by rfl, ?_⟩) (HSB.out _ hb1) ?_
 rotate_left
 ·(intro wq hSw; obtain ⟨_,_,_,_,_,_,_,_,_,_,_⟩ := hSw; go_simp; all_goals (first | (with_reducible rfl) | (rw [zI])))
 simp only [zA, zB, zC, Act.put, zD, zE, zF]
 refine zT 6 ?_ rfl (Or.inl ⟨by rfl, ?_⟩) (HSB.out _ hb1) ?_
 rotate_left
 ·(intro wq hSw; obtain ⟨_,_,_,_,_,_,_,_,_,_,_⟩ := hSw; go_simp; all_goals (first | (with_reducible rfl) | (rw [zI])))
 simp only [zA, zB, zC, Act.put, zD, zE, zF]
 refine zO 11 fun K hK => ?_
 go_simp
 have hcall := ih d (.agg #[.int .i64 d.kind, .int .i64 d.sort, .string ⟨d.name.toArray⟩, .slice dA dn dp, .slice dB dm dq]) w1 hmd h60d (isTy_of ((HLd.out.keep hbW).keep hb1) ((HKd.out.keep hbW).keep hb1)) hgd ((HSW.out.keep hbW).keep hb1)
 unfold TextSays at hcall
 refine hcall.mono ?_; clear hcall; rw [HTd.out]; rintro e w2 ⟨rfl, hq⟩
 have hb2 := chain hb1 hq
 clear hq
 refine hK.out _ _ (fun _ => HSB.out _ hb2) ?_
 clear hK K
 try simp only [zA, zB, zC, Act.put, zD, zE, zF]
 refine zT 12 ?_ rfl (Or.inl ⟨by rfl, ?_⟩) (HSB.out _ hb2) ?_
 rotate_left
 ·(intro wq hSw; obtain ⟨_,_,_,_,_,_,_,_,_,_,_⟩ := hSw; go_simp; all_goals (first | (with_reducible rfl) | (rw [zI])))
 simp only [zA, zB, zC, Act.put, zD, zE, zF]
 refine zO 13 fun K hK => ?_
 go_simp
 refine hK.out _ _ (fun h => absurd h (by decide)) ?_
 clear hK K
 try simp only [zA, zB, zC, Act.put, zD, zE, zF]
 refine wpT_done (by kernel_rfl) ?_
 go_wp2_with fail
 go_ret
 refine ⟨?_, chain hbW hb2⟩
 rw [← HA.out]
 simp [txt, txtOf, txts, HTc.out, HTd.out]

set_option maxHeartbeats 4000000 in
theorem write_5 (m : Nat) (ih : ∀ (t : Ty) (v : Value) (w : World), parts t ≤ m → parts t ≤ 60 → IsTy w v t → Good t → Sorts w → TextSays 67 t v w)
  (c d : Ty) (v : Value) (w : World) (hmc : parts c ≤ m) (h60c : parts c ≤ 60) (hgc : Good c) (hmd : parts d ≤ m) (h60d : parts d ≤ 60) (hgd : Good d) (hv : IsTy w v (.mk 5 0 [] [] [c, d])) (hsw : Sorts w)  : TextSays 67 (.mk 5 0 [] [] [c, d]) v w := by
 unfold TextSays
 obtain ⟨lv, kv, rfl, hs1, hs2⟩ := hv
 simp only [Ty.kind, Ty.sort, Ty.name, Ty.labels, Ty.kids] at hs1 hs2 ⊢
 obtain ⟨A0, p0, rfl, -, -⟩ := hs1
 have HK := Lib.hid hs2
 obtain ⟨A, cap, rfl, -, -⟩ := hs2
 simp only [List.length_nil, List.length_cons] at HK ⊢
 have HSW := Lib.hid hsw
 clear hsw
 obtain ⟨-, -, b, off, cA, cn, cp, cB, cm, cq, rfl, c0, c1, c2, c3, c4, hl', hk'⟩ := kid_at (i := 0) (t := c) HK.out rfl
 simp only [Nat.zero_mul, Nat.one_mul, Nat.add_zero] at c0 c1 c2 c3 c4
 have HLc := Lib.hid hl'; have HKc := Lib.hid hk'; clear hl' hk'
 have hlc : (txt c).length ≤ 6000 := by have := txt_len c hgc; omega
 obtain ⟨Tc, hTc⟩ : ∃ y, txt c = y := ⟨_, rfl⟩
 have HTc := Lib.hid hTc
 rw [hTc] at hlc
 clear hTc
 obtain ⟨-, -, b2, off2, dA, dn, dp, dB, dm, dq, eA, d0, d1, d2, d3, d4, hl', hk'⟩ := kid_at (i := 1) (t := d) HK.out rfl
 cases eA
 simp only [Nat.zero_mul, Nat.one_mul, Nat.add_zero] at d0 d1 d2 d3 d4
 have HLd := Lib.hid hl'; have HKd := Lib.hid hk'; clear hl' hk'
 have hld : (txt d).length ≤ 6000 := by have := txt_len d hgd; omega
 obtain ⟨Td, hTd⟩ : ∃ y, txt d = y := ⟨_, rfl⟩
 have HTd := Lib.hid hTd
 rw [hTd] at hld
 clear hTd
 obtain ⟨ANS, hA⟩ : ∃ x, txt (.mk 5 0 [] [] [c, d]) = x := ⟨_, rfl⟩
 have HA := Lib.hid hA; rw [hA]; clear hA
 go_enter Tryz.func67, Tryz.ntmps67
 go_wp2_with fail
 obtain ⟨W, hW⟩ : ∃ W, w.alloc (.cells #[.int .i64 5, .int .i64 0, .string ⟨#[]⟩, .slice A0 0 p0, .slice (some ⟨b, off, none⟩) 2 cap] 30) = W := ⟨_, rfl⟩
 have hbW : Below w.heap.size w W := by subst hW; go_grown
 have x4 : W.cell? ⟨w.heap.size, 4, none⟩ = some (.slice (some ⟨b, off, none⟩) 2 cap) := by subst hW; simp [go_sem]
 try rw [hW]
 clear hW
 have ec0 := cell_keep c0 hbW; have ec1 := cell_keep c1 hbW; have ec2 := cell_keep c2 hbW; have ec3 := cell_keep c3 hbW; have ec4 := cell_keep c4 hbW
 have ed0 := cell_keep d0 hbW; have ed1 := cell_keep d1 hbW; have ed2 := cell_keep d2 hbW; have ed3 := cell_keep d3 hbW; have ed4 := cell_keep d4 hbW
 have hS : ∀ w' : World, Below W.heap.size W w' → (fun w' : World => w'.cell? ⟨w.heap.size, 4, none⟩ = some (.slice (some ⟨b, off, none⟩) 2 cap) ∧ w'.cell? ⟨b, off, none⟩ = some (.int .i64 c.kind) ∧ w'.cell? ⟨b, off + 1, none⟩ = some (.int .i64 c.sort) ∧ w'.cell? ⟨b, off + 2, none⟩ = some (.string ⟨c.name.toArray⟩) ∧ w'.cell? ⟨b, off + 3, none⟩ = some (.slice cA cn cp) ∧ w'.cell? ⟨b, off + 4, none⟩ = some (.slice cB cm cq) ∧ w'.cell? ⟨b, off + 5, none⟩ = some (.int .i64 d.kind) ∧ w'.cell? ⟨b, off + 5 + 1, none⟩ = some (.int .i64 d.sort) ∧ w'.cell? ⟨b, off + 5 + 2, none⟩ = some (.string ⟨d.name.toArray⟩) ∧ w'.cell? ⟨b, off + 5 + 3, none⟩ = some (.slice dA dn dp) ∧ w'.cell? ⟨b, off + 5 + 4, none⟩ = some (.slice dB dm dq)) w' := fun w' h => ⟨cell_keep x4 h, cell_keep ec0 h, cell_keep ec1 h, cell_keep ec2 h, cell_keep ec3 h, cell_keep ec4 h, cell_keep ed0 h, cell_keep ed1 h, cell_keep ed2 h, cell_keep ed3 h, cell_keep ed4 h⟩
 have HSd := Lib.hid (hS W.drew (Below.refl _ _).drew)
 have HSB := Lib.hid hS; clear hS
 refine wp_region_T 13 (fun w' : World => w'.cell? ⟨w.heap.size, 4, none⟩ = some (.slice (some ⟨b, off, none⟩) 2 cap) ∧ w'.cell? ⟨b, off, none⟩ = some (.int .i64 c.kind) ∧ w'.cell? ⟨b, off + 1, none⟩ = some (.int .i64 c.sort) ∧ w'.cell? ⟨b, off + 2, none⟩ = some (.string ⟨c.name.toArray⟩) ∧ w'.cell? ⟨b, off + 3, none⟩ = some (.slice cA cn cp) ∧ w'.cell? ⟨b, off + 4, none⟩ = some (.slice cB cm cq) ∧ w'.cell? ⟨b, off + 5, none⟩ = some (.int .i64 d.kind) ∧ w'.cell? ⟨b, off + 5 + 1, none⟩ = some (.int .i64 d.sort) ∧ w'.cell? ⟨b, off + 5 + 2, none⟩ = some (.string ⟨d.name.toArray⟩) ∧ w'.cell? ⟨b, off + 5 + 3, none⟩ = some (.slice dA dn dp) ∧ w'.cell? ⟨b, off + 5 + 4, none⟩ = some (.slice dB dm dq)) (by kernel_rfl) ?_
 refine zT 0 ?_ rfl (Or.inl ⟨by rfl, ?_⟩) HSd.out ?_
 rotate_left
 ·(intro wq hSw; obtain ⟨_,_,_,_,_,_,_,_,_,_,_⟩ := hSw; go_simp; all_goals (first | (with_reducible rfl) | (rw [zI])))
 simp only [zA, zB, zC, Act.put, zD, zE, zF]
 refine zT 1 ?_ rfl (Or.inl ⟨by rfl, ?_⟩) HSd.out ?_
 rotate_left
 ·(intro wq hSw; obtain ⟨_,_,_,_,_,_,_,_,_,_,_⟩ := hSw; go_simp; all_goals (first | (with_reducible rfl) | (rw [zI])))
 simp only [zA, zB, zC, Act.put, zD, zE, zF]
 refine zT 2 ?_ rfl (Or.inl ⟨by rfl, ?_⟩) HSd.out ?_
 rotate_left
 ·(intro wq hSw; obtain ⟨_,_,_,_,_,_,_,_,_,_,_⟩ := hSw; go_simp; all_goals (first | (with_reducible rfl) | (rw [zI])))
 simp only [zA, zB, zC, Act.put, zD, zE, zF]
 refine zT 3 ?_ rfl (Or.inl ⟨by rfl, ?_⟩) HSd.out ?_
 rotate_left
 ·(intro wq hSw; obtain ⟨_,_,_,_,_,_,_,_,_,_,_⟩ := hSw; go_simp; all_goals (first | (with_reducible rfl) | (rw [zI])))
 simp only [zA, zB, zC, Act.put, zD, zE, zF]
 refine zT 7 ?_ rfl (Or.inl ⟨by rfl, ?_⟩) HSd.out ?_
 rotate_left
 ·(intro wq hSw; obtain ⟨_,_,_,_,_,_,_,_,_,_,_⟩ := hSw; go_simp; all_goals (first | (with_reducible rfl) | (rw [zI])))
 simp only [zA, zB, zC, Act.put, zD, zE, zF]
 refine zT 8 ?_ rfl (Or.inl ⟨by rfl, ?_⟩) HSd.out ?_
 rotate_left
 ·(intro wq hSw; obtain ⟨_,_,_,_,_,_,_,_,_,_,_⟩ := hSw; go_simp; all_goals (first | (with_reducible rfl) | (rw [zI])))
 simp only [zA, zB, zC, Act.put, zD, zE, zF]
 refine zT 9 ?_ rfl (Or.inl ⟨by rfl, ?_⟩) HSd.out ?_
 rotate_left
 ·(intro wq hSw; obtain ⟨_,_,_,_,_,_,_,_,_,_,_⟩ := hSw; go_simp; all_goals (first | (with_reducible rfl) | (rw [zI])))
 simp only [zA, zB, zC, Act.put, zD, zE, zF]
 refine zT 10 ?_ rfl (Or.inl ⟨by rfl, ?_⟩) HSd.out ?_
 rotate_left
 ·(intro wq hSw; obtain ⟨_,_,_,_,_,_,_,_,_,_,_⟩ := hSw; go_simp; all_goals (first | (with_reducible rfl) | (rw [zI])))
 simp only [zA, zB, zC, Act.put, zD, zE, zF]
 refine zO 4 fun K hK => ?_
 go_simp
 have hcall := ih c (.agg #[.int .i64 c.kind, .int .i64 c.sort, .string ⟨c.name.toArray⟩, .slice cA cn cp, .slice cB cm cq]) W.drew hmc h60c (isTy_of ((HLc.out.keep hbW).keep (Below.refl W.heap.size W).drew) ((HKc.out.keep hbW).keep (Below.refl W.heap.size W).drew)) hgc ((HSW.out.keep hbW).keep (Below.refl W.heap.size W).drew)
 unfold TextSays at hcall
 refine hcall.mono ?_; clear hcall; rw [HTc.out]; rintro e w1 ⟨rfl, hq⟩
 have hb1 := chain (Below.refl W.heap.size W).drew hq
 clear hq
 refine hK.out _ _ (fun _ => HSB.out _ hb1) ?_
 clear hK K
 try simp only [zA, zB, zC, Act.put, zD, zE, zF]
 refine zT 5 ?_ rfl (Or.inl ⟨by rfl, ?_⟩) (HSB.out _ hb1) ?_
 rotate_left
 ·(intro wq hSw; obtain ⟨_,_,_,_,_,_,_,_,_,_,_⟩ := hSw; go_simp; all_goals (first | (with_reducible rfl) | (rw [zI])))
 simp only [zA, zB, zC, Act.put, zD, zE, zF]
 refine zT 6 ?_ rfl (Or.inl ⟨by rfl, ?_⟩) (HSB.out _ hb1) ?_
 rotate_left
 ·(intro wq hSw; obtain ⟨_,_,_,_,_,_,_,_,_,_,_⟩ := hSw; go_simp; all_goals (first | (with_reducible rfl) | (rw [zI])))
 simp only [zA, zB, zC, Act.put, zD, zE, zF]
 refine zO 11 fun K hK => ?_
 go_simp
 have hcall := ih d (.agg #[.int .i64 d.kind, .int .i64 d.sort, .string ⟨d.name.toArray⟩, .slice dA dn dp, .slice dB dm dq]) w1 hmd h60d (isTy_of ((HLd.out.keep hbW).keep hb1) ((HKd.out.keep hbW).keep hb1)) hgd ((HSW.out.keep hbW).keep hb1)
 unfold TextSays at hcall
 refine hcall.mono ?_; clear hcall; rw [HTd.out]; rintro e w2 ⟨rfl, hq⟩
 have hb2 := chain hb1 hq
 clear hq
 refine hK.out _ _ (fun _ => HSB.out _ hb2) ?_
 clear hK K
 try simp only [zA, zB, zC, Act.put, zD, zE, zF]
 refine zT 12 ?_ rfl (Or.inl ⟨by rfl, ?_⟩) (HSB.out _ hb2) ?_
 rotate_left
 ·(intro wq hSw; obtain ⟨_,_,_,_,_,_,_,_,_,_,_⟩ := hSw; go_simp; all_goals (first | (with_reducible rfl) | (rw [zI])))
 simp only [zA, zB, zC, Act.put, zD, zE, zF]
 refine zO 13 fun K hK => ?_
 go_simp
 refine hK.out _ _ (fun h => absurd h (by decide)) ?_
 clear hK K
 try simp only [zA, zB, zC, Act.put, zD, zE, zF]
 refine wpT_done (by kernel_rfl) ?_
 go_wp2_with fail
 go_ret
 refine ⟨?_, chain hbW hb2⟩
 rw [← HA.out]
 simp [txt, txtOf, txts, HTc.out, HTd.out]

set_option maxHeartbeats 4000000 in
theorem write_1 (m : Nat) (ih : ∀ (t : Ty) (v : Value) (w : World), parts t ≤ m → parts t ≤ 60 → IsTy w v t → Good t → Sorts w → TextSays 67 t v w)
     (v : Value) (w : World)  (hv : IsTy w v (.mk 1 0 [] [] [])) (hsw : Sorts w)  : TextSays 67 (.mk 1 0 [] [] []) v w := by
  unfold TextSays
  obtain ⟨lv, kv, rfl, hs1, hs2⟩ := hv
  simp only [Ty.kind, Ty.sort, Ty.name, Ty.labels, Ty.kids] at hs1 hs2 ⊢
  obtain ⟨A0, p0, rfl, -, -⟩ := hs1
  have HK := Lib.hid hs2
  obtain ⟨A, cap, rfl, -, -⟩ := hs2
  simp only [List.length_nil, List.length_cons] at HK ⊢
  have HSW := Lib.hid hsw
  clear hsw
  obtain ⟨ANS, hA⟩ : ∃ x, txt (.mk 1 0 [] [] []) = x := ⟨_, rfl⟩
  have HA := Lib.hid hA; rw [hA]; clear hA
  go_enter Tryz.func67, Tryz.ntmps67
  go_wp2_with fail
  go_ret
  refine ⟨?_, by go_grown⟩
  rw [← HA.out]
  simp [txt, txtOf]

set_option maxHeartbeats 4000000 in
theorem write_9 (m : Nat) (ih : ∀ (t : Ty) (v : Value) (w : World), parts t ≤ m → parts t ≤ 60 → IsTy w v t → Good t → Sorts w → TextSays 67 t v w)
  (n : Str) (v : Value) (w : World)  (hv : IsTy w v (.mk 9 0 n [] [])) (hsw : Sorts w)  : TextSays 67 (.mk 9 0 n [] []) v w := by
 unfold TextSays
 obtain ⟨lv, kv, rfl, hs1, hs2⟩ := hv
 simp only [Ty.kind, Ty.sort, Ty.name, Ty.labels, Ty.kids] at hs1 hs2 ⊢
 obtain ⟨A0, p0, rfl, -, -⟩ := hs1
 have HK := Lib.hid hs2
 obtain ⟨A, cap, rfl, -, -⟩ := hs2
 simp only [List.length_nil, List.length_cons] at HK ⊢
 have HSW := Lib.hid hsw
 clear hsw
 obtain ⟨ANS, hA⟩ : ∃ x, txt (.mk 9 0 n [] []) = x := ⟨_, rfl⟩
 have HA := Lib.hid hA; rw [hA]; clear hA
 go_enter Tryz.func67, Tryz.ntmps67
 go_wp2_with fail
 go_ret
 refine ⟨?_, by go_grown⟩
 rw [← HA.out]
 simp [txt, txtOf]
end Go.Proofs.YtpidjanngbaiiaaGreatDoor
