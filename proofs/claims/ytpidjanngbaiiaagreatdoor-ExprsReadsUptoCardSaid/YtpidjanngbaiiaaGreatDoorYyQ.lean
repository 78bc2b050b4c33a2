/-
  The reference's yard: reduce.
-/
import Derived.Test.YtpidjanngbaiiaaGreatDoorM13
namespace Go.Proofs.YtpidjanngbaiiaaGreatDoor
open Go.RowKit Go.Proofs

set_option maxRecDepth 100000
structure YStep (w w' : World) (Y : Nat) (ov vv ov' vv' : Value) : Prop where
 bl : Below Y w w'
 sm : ∀ k, k < w.heap.size → k ≠ Y → some k ≠ ov.ownBlock → some k ≠ vv.ownBlock → w'.heap[k]? = w.heap[k]?
 o : ov'.ownBlock = ov.ownBlock ∨ ∃ n, ov'.ownBlock = some n ∧ w.heap.size ≤ n
 v : vv'.ownBlock = vv.ownBlock ∨ ∃ n, vv'.ownBlock = some n ∧ w.heap.size ≤ n
theorem own_some {w : World} {base : Nat} {E : TypeId} {size n : Nat} {v : Value} {xs : List Value} (h : w.ownsRow base E size v n xs) (hn : 0 < n) : ∃ g cap, v = .slice (some ⟨g, 0, none⟩) n cap ∧ n ≤ cap := by
 rcases h.2 with ⟨-, h0⟩ | ⟨g, cap, cur, hv, -, -, hc, -⟩
 ·omega
 ·exact ⟨g, cap, hv, hc⟩
theorem own_at {w : World} {base : Nat} {E : TypeId} {size n g cap : Nat} {xs : List Value} (h : w.ownsRow base E size (.slice (some ⟨g, 0, none⟩) n cap) n xs) {j : Nat} {u : Value} (hj : xs[j]? = some u) : w.cell? ⟨g, j, none⟩ = some u := by
 have := h.cells (g := g) rfl j u hj
 rwa [Go.WideShapes.add_plain, Nat.zero_add] at this
def ydSnd : Code → Code
 | .seq _ c => c
 | c => c
noncomputable def rdT5 : Code := ydSnd (ydSnd (ydSnd (ydSnd (Tryz.f59.body.getD .skip))))
set_option maxHeartbeats 8000000 in
theorem rd_tail (w w2 : World) (base Y : Nat) (ov ov2 : Value) (gv capv Mv nv N : Nat) (OL : List Str) (s : Str) (xs : List Value) (V1 kids : List Ex) (hY : Yard w2 base Y ov2 (.slice (some ⟨gv, 0, none⟩) Mv capv) OL xs (V1 ++ kids)) (hkl : kids.length = N) (hN1 : 1 ≤ N) (hN2 : N ≤ 2) (hMv : V1.length + N = Mv) (hnv : V1.length = nv) (hcapv : Mv ≤ capv) (hV : nv ≤ 4000)
  (hb2 : Below Y w w2) (st2 : ∀ k, k < w.heap.size → k ≠ Y → w2.heap[k]? = w.heap[k]?) (hz2 : w2.heap.size = w.heap.size) (ho : ov2.ownBlock = ov.ownBlock) (u1 u4 u5 u6 u7 u8 u9 u10 u11 u12 u13 u14 u15 u16 u17 u18 u19 u20 u21 u22 u23 u24 u25 u26 u27 u28 u29 u30 u31 u32 u33 u34 u35 u36 u37 u38 u39 u40 u41 u42 u43 u44 u45 u46 u47 u48 u49 u50 u51 u52 u53 u54 u55 u56 u57 u58 u59 u60 u61 u62 u63 u64 u65 u66 u67 u68 u69 : Value) :
  Code.wp Tryz.prog rdT5 (bodyPost Tryz.prog Tryz.f59 fun e w' => e = .returned (.tuple #[]) ∧ ∃ ov' vv' xs', Yard w' base Y ov' vv' OL xs' (V1 ++ [.mk 3 s 0 0 [] kids]) ∧ YStep w w' Y ov (.slice (some ⟨gv, 0, none⟩) Mv capv) ov' vv') { tmps := #[.pointer (some ⟨Y, 0, none⟩), u1, .string ⟨s.toArray⟩, .int .i64 (N : Int), u4, u5, u6, u7, u8, u9, u10, u11, u12, u13, u14, u15, u16, u17, u18, u19, u20, u21, u22, u23, u24, u25, u26, u27, u28, u29, u30, u31, u32, u33, u34, u35, u36, u37, u38, u39, u40, u41, u42, u43, u44, u45, u46, u47, u48, u49, u50, u51, u52, u53, u54, u55, u56, u57, u58, u59, u60, u61, u62, u63, u64, u65, u66, u67, u68, u69], defers := [] } w2 := by
 have h : rdT5 = Code.seq _ _ := rfl
 rw [h]
 clear h
 have HY := Lib.hid hY
 obtain ⟨ys, zs, hxs, hys, hzs⟩ := hY.cells.split
 have hysl := hys.length
 have hzsl := hzs.length
 have HYS := Lib.hid hys
 have HZS := Lib.hid hzs
 have HXS := Lib.hid hxs
 have c1 := hY.c1
 have hfr := hY.fr
 have hlt := hY.lt
 have hlb := hY.lb
 have hsrc : Hid (∀ ad, some (⟨gv, nv * 6, none⟩ : Addr) = some ad → ∀ j u, zs[j]? = some u → w2.cell? (ad.add j) = some u) := Lib.hid (by
  intro ad e j u hj
  obtain rfl := Option.some.inj e
  rw [Go.WideShapes.add_plain]
  refine own_at (g := gv) (cap := capv) (n := (V1 ++ kids).length) (by have := hY.vown; rwa [show Mv = (V1 ++ kids).length by rw [List.length_append, hkl, hMv]] at this) ?_
  rw [hxs, List.getElem?_append_right (by omega), show nv * 6 + j - ys.length = j by omega]
  exact hj)
 clear hY hys hzs hxs
 have e1 : (Mv : Int) - (N : Int) = (nv : Int) := by omega
 have e2 : (nv : Int) ≤ (Mv : Int) := by omega
 have e3 : ¬ capv = nv := by omega
 have e4 : nv ≤ Mv := by omega
 have e5 : Mv - nv = N := by omega
 have HE := Lib.hid (And.intro hMv hnv)
 clear hMv hnv
 dsimp only
 go_wp2_with (first | rw [e1] | (at_builtin; go_must (refine wpList_app_any rt_exs rfl (.const (.slice none 0 0)) (.tmp 55) rfl w2.heap.size _ 0 [] rfl (World.ownsRow_nil _ _ _ _) (some ⟨gv, nv * 6, none⟩) N (capv - nv) (by simp [Act.eval]) zs (by omega) (fun h => by cases h) hsrc.out HZS.out.one (by unfold maxLen; omega) (by omega) (Nat.le_refl _) ?_; intro v4 w4 o1 o2; simp only [Nat.zero_add, List.nil_append] at o1; obtain ⟨A5, c5, rfl⟩ := own_form o1)))
 have hgl : gv < w2.heap.size := (HY.out.vown.lt gv rfl).2
 have hgb : base ≤ gv := (HY.out.vown.lt gv rfl).1
 have hogl : ∀ k, ov2.ownBlock = some k → k < w2.heap.size := fun k hk => (HY.out.own.lt k hk).2
 have KB := new_exval w4 (.mk 3 s 0 0 [] kids) (.slice A5 N c5) 52
 have hb5 : Below w4.heap.size w4 (w4.alloc (.cells #[.int .i64 3, .string ⟨s.toArray⟩, .int .i64 0, .int .i64 0, .string ⟨#[]⟩, .slice A5 N c5] 52)) := (Below.refl _ _).alloc (Nat.le_refl _) _
 change ExBox (w4.alloc (.cells #[.int .i64 3, .string ⟨s.toArray⟩, .int .i64 0, .int .i64 0, .string ⟨#[]⟩, .slice A5 N c5] 52)) _ _ _ at KB
 have h24 := o2.size
 have hown5 := own_same (w' := w4.alloc (.cells #[.int .i64 3, .string ⟨s.toArray⟩, .int .i64 0, .int .i64 0, .string ⟨#[]⟩, .slice A5 N c5] 52)) o1 (fun k hk => hb5.block k (o1.lt k hk).2)
 have HYw := Lib.hid ((HY.out.below o2).below hb5)
 have HZ5 := (HZS.out.keep (D' := yD base ov2 (.slice (some ⟨gv, 0, none⟩) Mv capv)) (Same.below o2) (fun _ h _ => h)).keep (D' := yD base ov2 (.slice (some ⟨gv, 0, none⟩) Mv capv)) (Same.below hb5) (fun _ h _ => h)
 have hb25 : Below w2.heap.size w2 (w4.alloc (.cells #[.int .i64 3, .string ⟨s.toArray⟩, .int .i64 0, .int .i64 0, .string ⟨#[]⟩, .slice A5 N c5] 52)) := chain o2 hb5
 have hkids : Exs (yD base ov2 (.slice (some ⟨gv, 0, none⟩) Mv capv)) (w4.alloc (.cells #[.int .i64 3, .string ⟨s.toArray⟩, .int .i64 0, .int .i64 0, .string ⟨#[]⟩, .slice A5 N c5] 52)) (.slice A5 N c5) kids := own_exs (by rw [hkl]; exact hown5) HZ5 (fun k hk => by
  refine ⟨by omega, fun e => by have := hogl k e.symm; omega, fun e => ?_⟩
  have : k = gv := Option.some.inj e
  omega)
 have HKI := Lib.hid hkids
 have hX5 : w2.heap.size ≤ w4.heap.size := h24
 clear hkids hown5 HZ5 o1 hb5 o2 h24 c1 hfr
 generalize w4.alloc (.cells #[.int .i64 3, .string ⟨s.toArray⟩, .int .i64 0, .int .i64 0, .string ⟨#[]⟩, .slice A5 N c5] 52) = w5 at KB HYw hb25 HKI ⊢
 generalize w4.heap.size = X5 at KB hX5 ⊢
 clear w4
 have c1 := HYw.out.c1
 have hne1 : ¬ gv = X5 := by omega
 have HSd : Hid (w5.drew.cell? ⟨Y, 1, none⟩ = some (.slice (some ⟨gv, 0, none⟩) Mv capv) ∧ ExBox w5.drew X5 (.mk 3 s 0 0 [] kids) (.slice A5 N c5)) := Lib.hid ⟨c1, KB.c0, KB.c1, KB.c2, KB.c3, KB.c4, KB.c5, KB.fr, KB.lt⟩
 have hwn : IntKind.i64.wrap (nv : Int) = (nv : Int) := Go.IntWalk.i64_in _ (by omega)
 have hnc : (nv : Int) ≤ (capv : Int) := by omega
 have hn0 : 0 ≤ (nv : Int) := by omega
 refine wp_region_T 12 (fun w' => w'.cell? ⟨Y, 1, none⟩ = some (.slice (some ⟨gv, 0, none⟩) Mv capv) ∧ ExBox w' X5 (.mk 3 s 0 0 [] kids) (.slice A5 N c5)) (by kernel_rfl) ?_
 refine wpT_takeT (i := 0) (v := ?_) rfl (by kernel_rfl) (by kernel_rfl) (by kernel_rfl) (by kernel_rfl) (by kernel_rfl) (fun _ _ _ h => h) (Or.inl ⟨by rfl, ?_⟩) HSd.out ?_
 rotate_left
 ·(intro wq hSw; obtain ⟨q0, KQ⟩ := id hSw; obtain ⟨y0, y1, y2, y3, y4, y5, y6, y7⟩ := id KQ; go_simp; all_goals (first | (with_reducible rfl) | (intro hh; omega) | (rw [if_pos (by omega)]; done) | (rw [if_neg (by omega)]; done) | skip))
 try simp only [zA, zB, zC, Act.put, zD, zE, zF]
 refine wpT_takeT (i := 1) (v := ?_) rfl (by kernel_rfl) (by kernel_rfl) (by kernel_rfl) (by kernel_rfl) (by kernel_rfl) (fun _ _ _ h => h) (Or.inl ⟨by rfl, ?_⟩) HSd.out ?_
 rotate_left
 ·(intro wq hSw; obtain ⟨q0, KQ⟩ := id hSw; obtain ⟨y0, y1, y2, y3, y4, y5, y6, y7⟩ := id KQ; go_simp; all_goals (first | (with_reducible rfl) | (intro hh; omega) | (rw [if_pos (by omega)]; done) | (rw [if_neg (by omega)]; done) | skip))
 try simp only [zA, zB, zC, Act.put, zD, zE, zF]
 refine wpT_takeT (i := 2) (v := ?_) rfl (by kernel_rfl) (by kernel_rfl) (by kernel_rfl) (by kernel_rfl) (by kernel_rfl) (fun _ _ _ h => h) (Or.inl ⟨by rfl, ?_⟩) HSd.out ?_
 rotate_left
 ·(intro wq hSw; obtain ⟨q0, KQ⟩ := id hSw; obtain ⟨y0, y1, y2, y3, y4, y5, y6, y7⟩ := id KQ; go_simp; all_goals (first | (with_reducible rfl) | (intro hh; omega) | (rw [if_pos (by omega)]; done) | (rw [if_neg (by omega)]; done) | skip))
 try simp only [zA, zB, zC, Act.put, zD, zE, zF]
 refine wpT_takeT (i := 3) (v := ?_) rfl (by kernel_rfl) (by kernel_rfl) (by kernel_rfl) (by kernel_rfl) (by kernel_rfl) (fun _ _ _ h => h) (Or.inl ⟨by rfl, ?_⟩) HSd.out ?_
 rotate_left
 ·(intro wq hSw; obtain ⟨q0, KQ⟩ := id hSw; obtain ⟨y0, y1, y2, y3, y4, y5, y6, y7⟩ := id KQ; go_simp; all_goals (first | (with_reducible rfl) | (intro hh; omega) | (rw [if_pos (by omega)]; done) | (rw [if_neg (by omega)]; done) | skip))
 try simp only [zA, zB, zC, Act.put, zD, zE, zF]
 refine wpT_takeT (i := 4) (v := ?_) rfl (by kernel_rfl) (by kernel_rfl) (by kernel_rfl) (by kernel_rfl) (by kernel_rfl) (fun _ _ _ h => h) (Or.inl ⟨by rfl, ?_⟩) HSd.out ?_
 rotate_left
 ·(intro wq hSw; obtain ⟨q0, KQ⟩ := id hSw; obtain ⟨y0, y1, y2, y3, y4, y5, y6, y7⟩ := id KQ; go_simp; all_goals (first | (with_reducible rfl) | (intro hh; omega) | (rw [if_pos (by omega)]; done) | (rw [if_neg (by omega)]; done) | skip))
 try simp only [zA, zB, zC, Act.put, zD, zE, zF]
 refine wpT_takeT (i := 5) (v := ?_) rfl (by kernel_rfl) (by kernel_rfl) (by kernel_rfl) (by kernel_rfl) (by kernel_rfl) (fun _ _ _ h => h) (Or.inl ⟨by rfl, ?_⟩) HSd.out ?_
 rotate_left
 ·(intro wq hSw; obtain ⟨q0, KQ⟩ := id hSw; obtain ⟨y0, y1, y2, y3, y4, y5, y6, y7⟩ := id KQ; go_simp; all_goals (first | (with_reducible rfl) | (intro hh; omega) | (rw [if_pos (by omega)]; done) | (rw [if_neg (by omega)]; done) | skip))
 try simp only [zA, zB, zC, Act.put, zD, zE, zF]
 refine wpT_takeT (i := 6) (v := .slice (some ⟨gv, 0, none⟩) nv capv) rfl (by kernel_rfl) (by kernel_rfl) (by kernel_rfl) (by kernel_rfl) (by kernel_rfl) (fun _ _ _ h => h) (Or.inl ⟨by rfl, ?_⟩) HSd.out ?_
 ·(intro wq hSw; obtain ⟨q0, KQ⟩ := id hSw; obtain ⟨y0, y1, y2, y3, y4, y5, y6, y7⟩ := id KQ; go_simp; all_goals (first | (with_reducible rfl) | (intro hh; omega) | (rw [if_pos (by omega)]; done) | (rw [if_neg (by omega)]; done) | skip))
 try simp only [zA, zB, zC, Act.put, zD, zE, zF]
 refine wpT_takeT (i := 7) (v := ?_) rfl (by kernel_rfl) (by kernel_rfl) (by kernel_rfl) (by kernel_rfl) (by kernel_rfl) (fun _ _ _ h => h) (Or.inl ⟨by rfl, ?_⟩) HSd.out ?_
 rotate_left
 ·(intro wq hSw; obtain ⟨q0, KQ⟩ := id hSw; obtain ⟨y0, y1, y2, y3, y4, y5, y6, y7⟩ := id KQ; go_simp; all_goals (first | (with_reducible rfl) | (intro hh; omega) | (rw [if_pos (by omega)]; done) | (rw [if_neg (by omega)]; done) | skip))
 try simp only [zA, zB, zC, Act.put, zD, zE, zF]
 refine zO 8 fun K hK => ?_
 go_simp
 have hb6 : Below w5.heap.size w5 (w5.alloc (.cells #[.int .i64 3, .string ⟨s.toArray⟩, .int .i64 0, .int .i64 0, .string ⟨#[]⟩, .slice A5 N c5] 52)).drew := ((Below.refl _ _).alloc (Nat.le_refl _) _).drew
 change Below w5.heap.size w5 (w5.alloc (.cells #[.int .i64 (Ex.mk 3 s 0 0 [] kids).kind, .string ⟨(Ex.mk 3 s 0 0 [] kids).name.toArray⟩, .int .i64 (Ex.mk 3 s 0 0 [] kids).vs, .int .i64 (Ex.mk 3 s 0 0 [] kids).vn, .string ⟨(Ex.mk 3 s 0 0 [] kids).vt.toArray⟩, .slice A5 N c5] 52)).drew at hb6
 have KB6' := new_exval w5 (.mk 3 s 0 0 [] kids) (.slice A5 N c5) 52
 have KE : ExBox (w5.alloc (.cells #[.int .i64 (Ex.mk 3 s 0 0 [] kids).kind, .string ⟨(Ex.mk 3 s 0 0 [] kids).name.toArray⟩, .int .i64 (Ex.mk 3 s 0 0 [] kids).vs, .int .i64 (Ex.mk 3 s 0 0 [] kids).vn, .string ⟨(Ex.mk 3 s 0 0 [] kids).vt.toArray⟩, .slice A5 N c5] 52)).drew w5.heap.size (.mk 3 s 0 0 [] kids) (.slice A5 N c5) := ⟨KB6'.c0, KB6'.c1, KB6'.c2, KB6'.c3, KB6'.c4, KB6'.c5, KB6'.fr, KB6'.lt⟩
 clear KB6'
 have h56 := hb6.size
 have hY5 : Y < w5.heap.size := by have := HYw.out.lt; have := HYw.out.lb; omega
 have hYwl : base ≤ w5.heap.size := HYw.out.lb
 refine hK.out _ _ (fun _ => ⟨(hb6.cell (p := ⟨Y, 1, none⟩) hY5).trans c1, KB.keep hb6 KB.lt⟩) ?_
 clear hK K
 try simp only [zA, zB, zC, Act.put, zD, zE, zF]
 have KB6 := KB.keep hb6 KB.lt
 have HYx := Lib.hid (HYw.out.below hb6)
 have hb26 := chain hb25 hb6
 have HKI6 := Lib.hid (HKI.out.keep (D' := yD base ov2 (.slice (some ⟨gv, 0, none⟩) Mv capv)) (Same.below hb6) (fun _ h _ => h))
 have hX6 : X5 < w5.heap.size := KB.lt
 generalize (w5.alloc (.cells #[.int .i64 (Ex.mk 3 s 0 0 [] kids).kind, .string ⟨(Ex.mk 3 s 0 0 [] kids).name.toArray⟩, .int .i64 (Ex.mk 3 s 0 0 [] kids).vs, .int .i64 (Ex.mk 3 s 0 0 [] kids).vn, .string ⟨(Ex.mk 3 s 0 0 [] kids).vt.toArray⟩, .slice A5 N c5] 52)).drew = w6 at KE KB6 HYx hb26 HKI6 h56 hb6 ⊢
 generalize w5.heap.size = E6 at KE hX6 hYwl hY5 h56 ⊢
 clear c1 HSd KB HYw hb25 HKI hb6
 have c1 := HYx.out.c1
 have hcut : w6.ownsRow base 52 6 (.slice (some ⟨gv, 0, none⟩) nv capv) nv ys := by
  have h := HYx.out.vown
  rw [show (V1 ++ kids).length = Mv by rw [List.length_append, hkl]; exact HE.out.1] at h
  have h2 := own_cut (m := nv) h (by omega)
  rwa [HXS.out, List.take_left' (by rw [hysl, HE.out.2])] at h2
 refine zO 9 fun K hK => ?_
 refine step_app rt_exs rfl (.tmp 64) (.tmp 66) rfl base _ nv ys rfl hcut ⟨E6, 0, none⟩ 1 1 [.int .i64 3, .string ⟨s.toArray⟩, .int .i64 0, .int .i64 0, .string ⟨([] : Str).toArray⟩, .slice A5 N c5] rfl rfl (fun j u hj => ?_) (by simp [Value.oneCell']) (by unfold maxLen; omega) (by omega) (Nat.le_trans hYwl h56) (fun v7 w7 k1 k2 k3 k4 => ?_)
 ·rw [Go.WideShapes.add_plain, Nat.zero_add]
  match j, hj with
  | 0, hj => simp at hj; subst hj; exact KE.c0
  | 1, hj => simp at hj; subst hj; exact KE.c1
  | 2, hj => simp at hj; subst hj; exact KE.c2
  | 3, hj => simp at hj; subst hj; exact KE.c3
  | 4, hj => simp at hj; subst hj; exact KE.c4
  | 5, hj => simp at hj; subst hj; exact KE.c5
  | j + 6, hj => simp at hj
 obtain ⟨A7, c7, rfl⟩ := own_form k1
 have hY1 : Y < base := HYx.out.lt
 refine hK.out _ _ (fun _ => ⟨(k4.cell (p := ⟨Y, 1, none⟩) hY1).trans c1, KB6.grown k2 (fun e => hne1 (Option.some.inj (e : some X5 = some gv)).symm)⟩) ?_
 clear hK K
 try simp only [zA, zB, zC, Act.put, zD, zE, zF]
 have hc7 : w7.cell? ⟨Y, 1, none⟩ = some (.slice (some ⟨gv, 0, none⟩) Mv capv) := (k4.cell (p := ⟨Y, 1, none⟩) hY1).trans c1
 have hf7 : ∀ j, w7.frozen? ⟨Y, j, none⟩ = false := fun j => (k4.frozen (p := ⟨Y, j, none⟩) hY1).trans (HYx.out.fr j)
 refine zO 10 fun K hK => ?_
 go_simp
 refine hK.out _ _ (fun _ => ⟨hc7, KB6.grown k2 (fun e => hne1 (Option.some.inj (e : some X5 = some gv)).symm)⟩) ?_
 clear hK K
 try simp only [zA, zB, zC, Act.put, zD, zE, zF]
 refine zO 11 fun K hK => ?_
 go_simp
 refine hK.out _ _ (fun _ => ⟨hc7, KB6.grown k2 (fun e => hne1 (Option.some.inj (e : some X5 = some gv)).symm)⟩) ?_
 clear hK K
 try simp only [zA, zB, zC, Act.put, zD, zE, zF]
 refine zO 12 fun K hK => ?_
 go_simp
 refine hK.out _ _ (fun h => absurd h (by decide)) ?_
 clear hK K
 try simp only [zA, zB, zC, Act.put, zD, zE, zF]
 refine wpT_done (by kernel_rfl) ?_
 have hYS := HYx.out
 have hvb : (Value.slice A7 (nv + 1) c7).ownBlock = some gv ∨ ∃ n, (Value.slice A7 (nv + 1) c7).ownBlock = some n ∧ w6.heap.size ≤ n := by
  rcases k3 with k | k
  ·exact Or.inl k
  ·exact Or.inr ⟨_, k, Nat.le_refl _⟩
 have hsD : Same (yD base ov2 (.slice (some ⟨gv, 0, none⟩) Mv capv)) w6 w7 := fun k hk hl => k2.block k hl hk.2.2
 have hDD : ∀ k, yD base ov2 (.slice (some ⟨gv, 0, none⟩) Mv capv) k → k < w6.heap.size → yD base ov2 (.slice A7 (nv + 1) c7) k := fun k hk hl => ⟨hk.1, hk.2.1, fun e => by
  rcases hvb with h | ⟨n, h, hn⟩
  ·exact hk.2.2 (e.trans h)
  ·rw [h] at e; have := Option.some.inj e; omega⟩
 have hcells7 : ExCells (yD base ov2 (.slice A7 (nv + 1) c7)) w7 (ys ++ [.int .i64 3, .string ⟨s.toArray⟩, .int .i64 0, .int .i64 0, .string ⟨([] : Str).toArray⟩, .slice A5 N c5]) (V1 ++ [.mk 3 s 0 0 [] kids]) := by
  refine ExCells.append (((HYS.out.keep (D' := yD base ov2 (.slice (some ⟨gv, 0, none⟩) Mv capv)) (Same.below hb26) (fun _ h _ => h)).keep hsD hDD)) ?_
  exact .cons (.mk 3 s 0 0 [] kids) (.slice A5 N c5) [] [] (HKI6.out.keep hsD hDD) .nil
 have hlen7 : (V1 ++ [Ex.mk 3 s 0 0 [] kids]).length = nv + 1 := by rw [List.length_append, HE.out.2]; rfl
 have hfin := hYS.setVals (w' := w7) (.slice A7 (nv + 1) c7) _ _ (by rw [hlen7]; exact k1) hcells7 k2.size (fun k hk hne => k2.block k hk hne)
 have hYlt : Y < base := hYS.lt
 have hYb2 : base ≤ w2.heap.size := HY.out.lb
 have hstep : YStep w (w7.setCell ⟨Y, 1, none⟩ (.slice A7 (nv + 1) c7)) Y ov (.slice (some ⟨gv, 0, none⟩) Mv capv) ov2 (.slice A7 (nv + 1) c7) := by
  refine ⟨(((hb2.trans (hb26.mono (by omega))).trans (k4.mono (by omega))).setCell (Nat.le_refl _) _), fun k hk hne1 hne2 hne3 => ?_, Or.inl ho, ?_⟩
  ·have h26 := hb26.block k (by omega)
   have hl6 : k < w6.heap.size := by have := hb26.size; omega
   have h67 := k2.block k hl6 hne3
   have hl7 : k < w7.heap.size := by have := k2.size; omega
   exact (Same.set (D := fun k => k ≠ Y) (p := ⟨Y, 1, none⟩) (fun h => h rfl) k hne1 hl7).trans (h67.trans (h26.trans (st2 k hk hne1)))
  ·rcases hvb with h | ⟨n, h, hn⟩
   ·exact Or.inl h
   ·exact Or.inr ⟨n, h, by have := hb26.size; omega⟩
 go_end0
 exact ⟨rfl, ov2, _, _, hfin, hstep⟩
set_option maxHeartbeats 8000000 in
theorem reduce_any (w : World) (base Y : Nat) (ov vv : Value) (OL : List Str) (s : Str) (xs : List Value) (V1 kids : List Ex) (hY : Yard w base Y ov vv (OL ++ [s]) xs (V1 ++ kids)) (N : Nat) (hkl : kids.length = N) (hN1 : 1 ≤ N) (hN2 : N ≤ 2) (hlone : lone s = decide (N = 1)) (hO : OL.length ≤ 4000) (hV : V1.length ≤ 4000) :
  Calls Tryz.prog 59 #[.pointer (some ⟨Y, 0, none⟩)] w fun e w' => e = .returned (.tuple #[]) ∧ ∃ ov' vv' xs', Yard w' base Y ov' vv' OL xs' (V1 ++ [.mk 3 s 0 0 [] kids]) ∧ YStep w w' Y ov vv ov' vv' := by
 obtain ⟨g, cap, rfl, hcap⟩ := own_some hY.own (by simp)
 obtain ⟨gv, capv, rfl, hcapv⟩ := own_some hY.vown (by rw [List.length_append]; omega)
 have hel : w.cell? ⟨g, OL.length, none⟩ = some (.string ⟨s.toArray⟩) := own_at hY.own (by unfold strsOf; rw [List.getElem?_map, List.getElem?_append_right (Nat.le_refl _), Nat.sub_self]; rfl)
 simp only [List.length_append, List.length_cons, List.length_nil, Nat.zero_add, hkl] at hcap hcapv
 have c0 : w.cell? ⟨Y, 0, none⟩ = some (.slice (some ⟨g, 0, none⟩) (OL.length + 1) cap) := by have := hY.c0; rwa [List.length_append] at this
 have c1 : w.cell? ⟨Y, 1, none⟩ = some (.slice (some ⟨gv, 0, none⟩) (V1.length + N) capv) := by have := hY.c1; rwa [List.length_append, hkl] at this
 obtain ⟨M, hM⟩ : ∃ m, OL.length + 1 = m := ⟨_, rfl⟩
 obtain ⟨n, hn⟩ : ∃ m, OL.length = m := ⟨_, rfl⟩
 obtain ⟨Mv, hMv⟩ : ∃ m, V1.length + N = m := ⟨_, rfl⟩
 obtain ⟨nv, hnv⟩ : ∃ m, V1.length = m := ⟨_, rfl⟩
 have hlenO' : (OL ++ [s]).length = M := by rw [List.length_append]; exact hM
 have hlenV' : (V1 ++ kids).length = Mv := by rw [List.length_append, hkl]; exact hMv
 rw [hlenO', hlenV']
 clear hlenO' hlenV'
 have HM := Lib.hid hM; have Hn := Lib.hid hn; have HMv := Lib.hid hMv; have Hnv := Lib.hid hnv
 rw [hM] at c0 hcap
 rw [hMv] at c1 hcapv
 rw [hn] at hel hO
 rw [hnv] at hV
 have e1 : (M : Int) - 1 = (n : Int) := by omega
 have e2 : n < M := by omega
 have e3 : (n : Int) < (M : Int) := by omega
 have hfr := hY.fr
 have HY := Lib.hid hY
 clear hY hM hn hMv hnv
 go_enter Tryz.func59, Tryz.ntmps59
 go_wp2_with fail
 go_quiet (fail)
 have HY1 := Lib.hid (HY.out.drew (w' := w.drewN nq) (Nat.le_refl _) (fun _ _ => rfl))
 have hb1 : Below Y w (w.drewN nq) := ⟨rfl, rfl, rfl, Nat.le_refl _, fun _ _ => rfl⟩
 have hs1 : ∀ k : Nat, (w.drewN nq).heap[k]? = w.heap[k]? := fun _ => rfl
 have hz1 : (w.drewN nq).heap.size = w.heap.size := rfl
 have c0 : (w.drewN nq).cell? ⟨Y, 0, none⟩ = some (.slice (some ⟨g, 0, none⟩) M cap) := c0
 have c1 : (w.drewN nq).cell? ⟨Y, 1, none⟩ = some (.slice (some ⟨gv, 0, none⟩) Mv capv) := c1
 have hfr : ∀ j, (w.drewN nq).frozen? ⟨Y, j, none⟩ = false := hfr
 generalize w.drewN nq = w1 at HY1 hb1 hs1 hz1 c0 c1 hfr ⊢
 clear HY hel
 go_wp2_with fail
 have hwn : IntKind.i64.wrap (n : Int) = (n : Int) := Go.IntWalk.i64_in _ (by omega)
 have hnc : (n : Int) ≤ (cap : Int) := by omega
 have hn0 : 0 ≤ (n : Int) := by omega
 have HSd : Hid (w1.drew.cell? ⟨Y, 0, none⟩ = some (.slice (some ⟨g, 0, none⟩) M cap)) := Lib.hid c0
 refine wp_region_T 14 (fun w' => w'.cell? ⟨Y, 0, none⟩ = some (.slice (some ⟨g, 0, none⟩) M cap)) (by kernel_rfl) ?_
 refine wpT_takeT (i := 0) (v := ?_) rfl (by kernel_rfl) (by kernel_rfl) (by kernel_rfl) (by kernel_rfl) (by kernel_rfl) (fun _ _ _ h => h) (Or.inl ⟨by rfl, ?_⟩) HSd.out ?_
 rotate_left
 ·(intro wq hSw; obtain q0 := id hSw; go_simp; all_goals (first | (with_reducible rfl) | (intro hh; omega) | (rw [if_pos (by omega)]; done) | (rw [if_neg (by omega)]; done) | skip))
 try simp only [zA, zB, zC, Act.put, zD, zE, zF]
 refine wpT_takeT (i := 1) (v := ?_) rfl (by kernel_rfl) (by kernel_rfl) (by kernel_rfl) (by kernel_rfl) (by kernel_rfl) (fun _ _ _ h => h) (Or.inl ⟨by rfl, ?_⟩) HSd.out ?_
 rotate_left
 ·(intro wq hSw; obtain q0 := id hSw; go_simp; all_goals (first | (with_reducible rfl) | (intro hh; omega) | (rw [if_pos (by omega)]; done) | (rw [if_neg (by omega)]; done) | skip))
 try simp only [zA, zB, zC, Act.put, zD, zE, zF]
 refine wpT_takeT (i := 2) (v := ?_) rfl (by kernel_rfl) (by kernel_rfl) (by kernel_rfl) (by kernel_rfl) (by kernel_rfl) (fun _ _ _ h => h) (Or.inl ⟨by rfl, ?_⟩) HSd.out ?_
 rotate_left
 ·(intro wq hSw; obtain q0 := id hSw; go_simp; all_goals (first | (with_reducible rfl) | (intro hh; omega) | (rw [if_pos (by omega)]; done) | (rw [if_neg (by omega)]; done) | skip))
 try simp only [zA, zB, zC, Act.put, zD, zE, zF]
 refine wpT_takeT (i := 3) (v := ?_) rfl (by kernel_rfl) (by kernel_rfl) (by kernel_rfl) (by kernel_rfl) (by kernel_rfl) (fun _ _ _ h => h) (Or.inl ⟨by rfl, ?_⟩) HSd.out ?_
 rotate_left
 ·(intro wq hSw; obtain q0 := id hSw; go_simp; all_goals (first | (with_reducible rfl) | (intro hh; omega) | (rw [if_pos (by omega)]; done) | (rw [if_neg (by omega)]; done) | skip))
 try simp only [zA, zB, zC, Act.put, zD, zE, zF]
 refine wpT_takeT (i := 4) (v := ?_) rfl (by kernel_rfl) (by kernel_rfl) (by kernel_rfl) (by kernel_rfl) (by kernel_rfl) (fun _ _ _ h => h) (Or.inl ⟨by rfl, ?_⟩) HSd.out ?_
 rotate_left
 ·(intro wq hSw; obtain q0 := id hSw; go_simp; all_goals (first | (with_reducible rfl) | (intro hh; omega) | (rw [if_pos (by omega)]; done) | (rw [if_neg (by omega)]; done) | skip))
 try simp only [zA, zB, zC, Act.put, zD, zE, zF]
 refine wpT_takeT (i := 5) (v := ?_) rfl (by kernel_rfl) (by kernel_rfl) (by kernel_rfl) (by kernel_rfl) (by kernel_rfl) (fun _ _ _ h => h) (Or.inl ⟨by rfl, ?_⟩) HSd.out ?_
 rotate_left
 ·(intro wq hSw; obtain q0 := id hSw; go_simp; all_goals (first | (with_reducible rfl) | (intro hh; omega) | (rw [if_pos (by omega)]; done) | (rw [if_neg (by omega)]; done) | skip))
 try simp only [zA, zB, zC, Act.put, zD, zE, zF]
 refine wpT_takeT (i := 6) (v := ?_) rfl (by kernel_rfl) (by kernel_rfl) (by kernel_rfl) (by kernel_rfl) (by kernel_rfl) (fun _ _ _ h => h) (Or.inl ⟨by rfl, ?_⟩) HSd.out ?_
 rotate_left
 ·(intro wq hSw; obtain q0 := id hSw; go_simp; all_goals (first | (with_reducible rfl) | (intro hh; omega) | (rw [if_pos (by omega)]; done) | (rw [if_neg (by omega)]; done) | skip))
 try simp only [zA, zB, zC, Act.put, zD, zE, zF]
 refine wpT_takeT (i := 7) (v := ?_) rfl (by kernel_rfl) (by kernel_rfl) (by kernel_rfl) (by kernel_rfl) (by kernel_rfl) (fun _ _ _ h => h) (Or.inl ⟨by rfl, ?_⟩) HSd.out ?_
 rotate_left
 ·(intro wq hSw; obtain q0 := id hSw; go_simp; all_goals (first | (with_reducible rfl) | (intro hh; omega) | (rw [if_pos (by omega)]; done) | (rw [if_neg (by omega)]; done) | skip))
 try simp only [zA, zB, zC, Act.put, zD, zE, zF]
 refine wpT_takeT (i := 8) (v := ?_) rfl (by kernel_rfl) (by kernel_rfl) (by kernel_rfl) (by kernel_rfl) (by kernel_rfl) (fun _ _ _ h => h) (Or.inl ⟨by rfl, ?_⟩) HSd.out ?_
 rotate_left
 ·(intro wq hSw; obtain q0 := id hSw; go_simp; all_goals (first | (with_reducible rfl) | (intro hh; omega) | (rw [if_pos (by omega)]; done) | (rw [if_neg (by omega)]; done) | skip))
 try simp only [zA, zB, zC, Act.put, zD, zE, zF]
 refine wpT_takeT (i := 9) (v := ?_) rfl (by kernel_rfl) (by kernel_rfl) (by kernel_rfl) (by kernel_rfl) (by kernel_rfl) (fun _ _ _ h => h) (Or.inl ⟨by rfl, ?_⟩) HSd.out ?_
 rotate_left
 ·(intro wq hSw; obtain q0 := id hSw; go_simp; all_goals (first | (with_reducible rfl) | (intro hh; omega) | (rw [if_pos (by omega)]; done) | (rw [if_neg (by omega)]; done) | skip))
 try simp only [zA, zB, zC, Act.put, zD, zE, zF]
 refine wpT_takeT (i := 10) (v := ?_) rfl (by kernel_rfl) (by kernel_rfl) (by kernel_rfl) (by kernel_rfl) (by kernel_rfl) (fun _ _ _ h => h) (Or.inl ⟨by rfl, ?_⟩) HSd.out ?_
 rotate_left
 ·(intro wq hSw; obtain q0 := id hSw; go_simp; all_goals (first | (with_reducible rfl) | (intro hh; omega) | (rw [if_pos (by omega)]; done) | (rw [if_neg (by omega)]; done) | skip))
 try simp only [zA, zB, zC, Act.put, zD, zE, zF]
 refine wpT_takeT (i := 11) (v := .slice (some ⟨g, 0, none⟩) n cap) rfl (by kernel_rfl) (by kernel_rfl) (by kernel_rfl) (by kernel_rfl) (by kernel_rfl) (fun _ _ _ h => h) (Or.inl ⟨by rfl, ?_⟩) HSd.out ?_
 ·(intro wq hSw; obtain q0 := id hSw; go_simp; all_goals (first | (with_reducible rfl) | (intro hh; omega) | (rw [if_pos (by omega)]; done) | (rw [if_neg (by omega)]; done) | skip))
 try simp only [zA, zB, zC, Act.put, zD, zE, zF]
 refine wpT_takeT (i := 12) (v := ?_) rfl (by kernel_rfl) (by kernel_rfl) (by kernel_rfl) (by kernel_rfl) (by kernel_rfl) (fun _ _ _ h => h) (Or.inl ⟨by rfl, ?_⟩) HSd.out ?_
 rotate_left
 ·(intro wq hSw; obtain q0 := id hSw; go_simp; all_goals (first | (with_reducible rfl) | (intro hh; omega) | (rw [if_pos (by omega)]; done) | (rw [if_neg (by omega)]; done) | skip))
 try simp only [zA, zB, zC, Act.put, zD, zE, zF]
 refine wpT_takeT (i := 13) (v := ?_) rfl (by kernel_rfl) (by kernel_rfl) (by kernel_rfl) (by kernel_rfl) (by kernel_rfl) (fun _ _ _ h => h) (Or.inl ⟨by rfl, ?_⟩) HSd.out ?_
 rotate_left
 ·(intro wq hSw; obtain q0 := id hSw; go_simp; all_goals (first | (with_reducible rfl) | (intro hh; omega) | (rw [if_pos (by omega)]; done) | (rw [if_neg (by omega)]; done) | skip))
 try simp only [zA, zB, zC, Act.put, zD, zE, zF]
 refine zO 14 fun K hK => ?_
 go_simp
 refine hK.out _ _ (fun h => absurd h (by decide)) ?_
 clear hK K
 try simp only [zA, zB, zC, Act.put, zD, zE, zF]
 refine wpT_done (by kernel_rfl) ?_
 have hlenO : (OL ++ [s]).length = M := by rw [List.length_append]; exact HM.out
 have hcut : w1.ownsRow base 9 1 (.slice (some ⟨g, 0, none⟩) n cap) n (strsOf OL) := by
  have h := HY1.out.own
  rw [hlenO] at h
  have h2 := own_cut (m := n) h (by omega)
  rwa [show (strsOf (OL ++ [s])).take (n * 1) = strsOf OL by unfold strsOf; rw [List.map_append, Nat.mul_one, ← Hn.out]; exact List.take_left' (by simp)] at h2
 have HY2 := (HY1.out.setOps (w' := w1) (.slice (some ⟨g, 0, none⟩) n cap) OL (by rw [Hn.out]; exact hcut) (Nat.le_refl _) (fun _ _ _ => rfl) (Or.inl rfl)).drew (w' := (w1.setCell ⟨Y, 0, none⟩ (.slice (some ⟨g, 0, none⟩) n cap)).drew) (Nat.le_refl _) (fun _ _ => rfl)
 have hlenV : (V1 ++ kids).length = Mv := by rw [List.length_append, hkl]; exact HMv.out
 have hb2 := (hb1.setCell (p := ⟨Y, 0, none⟩) (Nat.le_refl _) (.slice (some ⟨g, 0, none⟩) n cap)).drew
 have st2 : ∀ k, k < w.heap.size → k ≠ Y → ((w1.setCell ⟨Y, 0, none⟩ (.slice (some ⟨g, 0, none⟩) n cap)).drew).heap[k]? = w.heap[k]? := fun k hk hne => (Same.set (D := fun k => k ≠ Y) (p := ⟨Y, 0, none⟩) (fun h => h rfl) k hne (by show k < w1.heap.size; omega)).trans (hs1 k)
 have hz2 : ((w1.setCell ⟨Y, 0, none⟩ (.slice (some ⟨g, 0, none⟩) n cap)).drew).heap.size = w.heap.size := by rw [show (w1.setCell ⟨Y, 0, none⟩ (.slice (some ⟨g, 0, none⟩) n cap)).drew.heap.size = (w1.setCell ⟨Y, 0, none⟩ (.slice (some ⟨g, 0, none⟩) n cap)).heap.size from rfl, World.size_setCell]; exact hz1
 rw [hlenV] at HY2
 generalize (w1.setCell ⟨Y, 0, none⟩ (.slice (some ⟨g, 0, none⟩) n cap)).drew = w2 at HY2 hb2 st2 hz2 ⊢
 rename_i K0 k0
 have H0 := Lib.hid k0
 clear k0
 simp only [Exit.then]
 refine H0.out _ _ ?_
 clear H0
 go_step
 rename_i K1 h1
 have H1 := Lib.hid h1
 clear h1
 go_wp2_with fail
 refine H1.out _ _ ?_
 clear H1
 go_step
 rename_i K2 h2
 have H2 := Lib.hid h2
 clear h2
 have hlone' := hlone
 unfold lone at hlone'
 rcases (by omega : N = 1 ∨ N = 2) with rfl | rfl
 ·have h3 : s = [110, 111, 116] ∨ s = [110, 101, 103] ∨ s = [35] := by
   simp only [decide_true, Bool.or_eq_true, decide_eq_true_eq] at hlone'
   exact hlone'
  clear hlone hlone'
  rcases h3 with rfl | rfl | rfl
  all_goals
   go_wp2_with fail
   refine H2.out _ _ ?_
   exact rd_tail w w2 base Y (.slice (some ⟨g, 0, none⟩) M cap) (.slice (some ⟨g, 0, none⟩) n cap) gv capv Mv nv 1 OL _ xs V1 kids HY2 hkl hN1 hN2 HMv.out Hnv.out hcapv hV hb2 st2 hz2 rfl _ _ _ _ _ _ _ _ _ _ _ _ _ _ _ _ _ _ _ _ _ _ _ _ _ _ _ _ _ _ _ _ _ _ _ _ _ _ _ _ _ _ _ _ _ _ _ _ _ _ _ _ _ _ _ _ _ _ _ _ _ _ _ _ _ _ _
 ·have h3 : (s == [110, 111, 116]) = false ∧ (s == [110, 101, 103]) = false ∧ (s == [35]) = false := by
   have hl : lone s = false := by rw [hlone]; rfl
   unfold lone at hl
   simp only [Bool.or_eq_false_iff, decide_eq_false_iff_not] at hl
   exact ⟨by rw [beq_eq_false_iff_ne]; exact hl.1, by rw [beq_eq_false_iff_ne]; exact hl.2.1, by rw [beq_eq_false_iff_ne]; exact hl.2.2⟩
  obtain ⟨n2, n3, n4⟩ := h3
  clear hlone hlone'
  go_wp2_with fail
  refine H2.out _ _ ?_
  exact rd_tail w w2 base Y (.slice (some ⟨g, 0, none⟩) M cap) (.slice (some ⟨g, 0, none⟩) n cap) gv capv Mv nv 2 OL _ xs V1 kids HY2 hkl hN1 hN2 HMv.out Hnv.out hcapv hV hb2 st2 hz2 rfl _ _ _ _ _ _ _ _ _ _ _ _ _ _ _ _ _ _ _ _ _ _ _ _ _ _ _ _ _ _ _ _ _ _ _ _ _ _ _ _ _ _ _ _ _ _ _ _ _ _ _ _ _ _ _ _ _ _ _ _ _ _ _ _ _ _ _
end Go.Proofs.YtpidjanngbaiiaaGreatDoor
