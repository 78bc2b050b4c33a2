/-
  The program's reader of expressions: all, with its loop.
  The program's Begin of expressions: reading, and how what is thrown is caught.
-/
import Derived.Test.YtpidjanngbaiiaaGreatDoorYpO
import Derived.Test.YtpidjanngbaiiaaGreatDoorM13
import Derived.Test.YtpidjanngbaiiaaGreatDoorM12
import Derived.Recover
namespace Go.Proofs.YtpidjanngbaiiaaGreatDoor
open Go.RowKit Go.Proofs

set_option maxRecDepth 100000
theorem row_new2 {w : World} {D D' : Blocks} {t u : Ex} {kv lv : Value} (E : TypeId) (h : Exs D w kv t.kids) (h' : Exs D w lv u.kids) (hD : ∀ k, D k → D' k) (hs : D' w.heap.size) :
  Exs D' (w.alloc (.cells #[.int .i64 t.kind, .string ⟨t.name.toArray⟩, .int .i64 t.vs, .int .i64 t.vn, .string ⟨t.vt.toArray⟩, kv, .int .i64 u.kind, .string ⟨u.name.toArray⟩, .int .i64 u.vs, .int .i64 u.vn, .string ⟨u.vt.toArray⟩, lv] E)) (.slice (some ⟨w.heap.size, 0, none⟩) 2 2) [t, u] := by
 have hb : Below w.heap.size w (w.alloc (.cells #[.int .i64 t.kind, .string ⟨t.name.toArray⟩, .int .i64 t.vs, .int .i64 t.vn, .string ⟨t.vt.toArray⟩, kv, .int .i64 u.kind, .string ⟨u.name.toArray⟩, .int .i64 u.vs, .int .i64 u.vn, .string ⟨u.vt.toArray⟩, lv] E)) := by go_grown
 refine ⟨_, 2, rfl, Nat.le_refl _, (fun e => by cases e), fun _ => ⟨w.heap.size, 0, rfl, hs, ?_, ?_, trivial⟩⟩
 ·exact (ExAt_iff _ _ _ _ _).2 ⟨kv, by simp [go_sem], by simp [go_sem], by simp [go_sem], by simp [go_sem], by simp [go_sem], by simp [go_sem], h.keep (Same.below hb) (fun k hk _ => hD k hk)⟩
 ·exact (ExAt_iff _ _ _ _ _).2 ⟨lv, by simp [go_sem], by simp [go_sem], by simp [go_sem], by simp [go_sem], by simp [go_sem], by simp [go_sem], h'.keep (Same.below hb) (fun k hk _ => hD k hk)⟩
theorem eword_same {l : Str} {p q : Nat} (h : sk l p = sk l q) : eword l p = eword l q := by unfold eword; rw [h]
set_option maxHeartbeats 8000000 in
theorem eall_step (l : Str) (b : Nat) (hl : l.length ≤ 2000) (W0 : World) (t : Nat) (ht1 : 1 ≤ t) (ht2 : t ≤ 10) (p : Nat) (w : World) (hR : RBox w b l p) (hB : Bs W0 w b) (r1 : Yd.Res Ex)
  (h1 : ∀ w, RBox w b l p → Bs W0 w b → Calls Tryz.prog 85 #[.pointer (some ⟨b, 0, none⟩)] w (AnsE w b l r1)) (hr1 : ∀ x q, r1 = .ok x q → q ≤ l.length) (f : Nat)
  (hall : ∀ (k p : Nat) w r, 1 ≤ k → k ≤ 10 → p ≤ l.length → xAll l f k p = some r → RBox w b l p → Bs W0 w b → Calls Tryz.prog 53 #[.pointer (some ⟨b, 0, none⟩), .int .i64 k] w (AnsE w b l (skR l r))) (r : Yd.Res Ex) (hr : (match r1 with | .ok x q => xLoop l f t x q | r => some r) = some r) :
  Calls Tryz.prog 53 #[.pointer (some ⟨b, 0, none⟩), .int .i64 t] w (AnsE w b l (skR l r)) := by
 have hbw := hR.lt
 obtain ⟨RES, hRES⟩ : ∃ x, skR l r = x := ⟨_, rfl⟩
 rw [hRES]
 have HRES := Lib.hid hRES
 clear hRES
 have HALL := Lib.hid hall
 clear hall
 go_enter Tryz.func53, Tryz.ntmps53
 go_wp2_with fail
 have XB := new_exbox w 52
 have hbW : Below w.heap.size w (w.alloc (.cells #[.int .i64 0, .string ⟨#[]⟩, .int .i64 0, .int .i64 0, .string ⟨#[]⟩, .slice none 0 0] 52)) := by go_grown
 have hR0 := hR.keep hbW
 have hg0 := grown_belowB (grown_refl w b) hbW
 have hz0 : (w.alloc (.cells #[.int .i64 0, .string ⟨#[]⟩, .int .i64 0, .int .i64 0, .string ⟨#[]⟩, .slice none 0 0] 52)).heap.size = w.heap.size + 1 := by simp
 generalize w.alloc (.cells #[.int .i64 0, .string ⟨#[]⟩, .int .i64 0, .int .i64 0, .string ⟨#[]⟩, .slice none 0 0] 52) = w0 at XB hR0 hg0 hz0 ⊢
 clear hbW hR
 have hne1 : ¬ w.heap.size = b := by omega
 have hne2 : ¬ b = w.heap.size := by omega
 refine (h1 w0 hR0 (hB.grown hg0)).mono ?_
 rintro e w1 ⟨hg, hans⟩
 cases r1 with
 | err c q =>
  obtain rfl := hans
  obtain rfl := Option.some.inj hr
  have A := HRES.out
  subst A
  exact ⟨rfl, grown_trans hg0 hg, rfl⟩
 | ok x q =>
  obtain ⟨v, rfl, hv, hR1⟩ := hans
  have hq := hr1 _ _ rfl
  simp only at hr
  have hg1 := grown_trans hg0 hg
  have XB1 := XB.grown hg (fun e => hne1 (Option.some.inj e))
  have hz1 : w.heap.size + 1 ≤ w1.heap.size := by rw [← hz0]; exact hg.size
  obtain ⟨A, n, c, rfl, hk⟩ := hv.one'
  have HK := Lib.hid hk
  clear hk hv hg hR0 hg0 XB hr1 h1
  go_wp2_with fail
  have KB := new_exval w1 x (.slice A n c) 52
  have hb5 : Below w1.heap.size w1 (w1.alloc (.cells #[.int .i64 x.kind, .string ⟨x.name.toArray⟩, .int .i64 x.vs, .int .i64 x.vn, .string ⟨x.vt.toArray⟩, .slice A n c] 52)) := by go_grown
  generalize w1.alloc (.cells #[.int .i64 x.kind, .string ⟨x.name.toArray⟩, .int .i64 x.vs, .int .i64 x.vn, .string ⟨x.vt.toArray⟩, .slice A n c] 52) = w5 at KB hb5 ⊢
  have XB5 := XB1.keep hb5 XB1.lt
  have hR5 := hR1.keep hb5
  have hg5 := grown_belowB hg1 hb5
  have hk5 := HK.out.keep (D' := fun k => w.heap.size ≤ k ∧ k ≠ w.heap.size ∧ k ≠ w1.heap.size) (Same.below hb5) (fun k hk hl => by have : w0.heap.size ≤ k := hk; omega)
  have hX1 : ¬ w1.heap.size = b := by omega
  have hX2 : ¬ b = w1.heap.size := by omega
  have hX3 : ¬ w1.heap.size = w.heap.size := by omega
  have hX4 : ¬ w.heap.size = w1.heap.size := by omega
  have hX5 : w.heap.size < w1.heap.size := by omega
  clear HK XB1 hR1 hg1 hb5 hz1 hz0
  generalize w1.heap.size = X at KB hk5 hX1 hX2 hX3 hX4 hX5 ⊢
  clear w1 w0
  have HR := Lib.hid hr
  clear hr
  go_loopg [] f (fun gk wr => ∃ (y : Ex) (k k' n c : Nat) (A : Option Addr), gk ≤ f ∧ k ≤ l.length ∧ k' ≤ l.length ∧ Hid (sk l k' = sk l k) ∧ Hid (xLoop l gk t y k = some r) ∧ RBox wr b l k' ∧ ExBox wr w.heap.size zeroEx (.slice none 0 0) ∧ ExBox wr X y (.slice A n c) ∧ Exs (fun k => w.heap.size ≤ k ∧ k ≠ w.heap.size ∧ k ≠ X) wr (.slice A n c) y.kids ∧ w.grownBy wr (some b))
  case atStart => exact ⟨x, q, q, n, c, A, Nat.le_refl _, hq, hq, Lib.hid rfl, HR, hR5, XB5, KB, hk5, hg5⟩
  case round =>
   clear hR5 XB5 KB hk5 hg5 HR
   obtain ⟨y, k, k', n, c, A, hgf, hk, hk', HS, HL, hR1, XB1, KB1, hk1, hg1⟩ := hrel
   have HK := Lib.hid hk1
   clear hk1
   go_wp2_with fail
   refine (eword_any l b k' wr hl hk' hR1).mono ?_
   rw [eword_same HS.out, HS.out]
   have hs := sk_le hk
   have hwl := eword_len hk
   obtain ⟨W, hW⟩ : ∃ y, eword l k = y := ⟨_, rfl⟩
   rw [hW] at hwl ⊢
   have HW := Lib.hid hW
   clear hW
   rintro e w2 ⟨rfl, hg, hR2⟩
   have hg2 := grown_trans hg1 hg
   have XB2 := XB1.grown hg (fun e => hne1 (Option.some.inj e))
   have KB2 := KB1.grown hg (fun e => hX1 (Option.some.inj e))
   have hk2 := HK.out.keep (D' := fun k => w.heap.size ≤ k ∧ k ≠ w.heap.size ∧ k ≠ X) (Same.grown hg (fun k hk e => by have := Option.some.inj e; omega)) (fun _ h _ => h)
   clear hg hR1 XB1 KB1 HK hg1
   have HK := Lib.hid hk2
   clear hk2
   go_wp2_with fail
   refine (level_any W _).mono ?_
   have hlv := level_lt W
   obtain ⟨lv, hlvE⟩ : ∃ y : Nat, level W = y := ⟨(level W).toNat, by omega⟩
   rw [hlvE] at hlv ⊢
   have HV := Lib.hid hlvE
   clear hlvE
   rintro e w3 ⟨rfl, rfl⟩
   obtain ⟨z4, hz4⟩ : ∃ y, sk l k = y := ⟨_, rfl⟩
   have HZ := Lib.hid hz4
   rw [hz4] at hR2 hwl hs
   clear hz4
   obtain ⟨r0, r1, r2, r3⟩ := id hR2
   obtain ⟨x0, x1, x2, x3, x4, x5, x6, x7⟩ := id XB2
   obtain ⟨y0, y1, y2, y3, y4, y5, y6, y7⟩ := id KB2
   by_cases hlt : lv < t
   ·have hlt' : (lv : Int) < (t : Int) := by omega
    have hr : r = .ok y k := by
     have h := HL.out
     unfold xLoop at h
     cases gk with
     | zero => simp [Yd.loop] at h
     | succ g =>
      rw [Yd.loop] at h
      by_cases h0 : lv = 0
      ·rw [show ebin l k = none by unfold ebin; rw [HW.out, HV.out, if_pos (by omega)]] at h
       exact (Option.some.inj h).symm
      ·rw [show ebin l k = some (W, lv, sk l k + W.length) by unfold ebin; rw [HW.out, HV.out, if_neg (by omega), Int.toNat_natCast]] at h
       simp only at h
       rw [if_pos hlt] at h
       exact (Option.some.inj h).symm
    have hres : RES = .ok y z4 := by rw [← HRES.out, hr, ← HZ.out]; rfl
    subst hres
    rename_i K1 K0 k1 k0
    have H1 := Lib.hid k1
    clear k1
    go_wp2_with fail
    refine H1.out _ _ ?_
    clear H1
    go_step
    go_step
    rename_i K4 h4
    have H4 := Lib.hid h4
    clear h4
    go_wp2_with fail
    refine H4.out _ _ ?_
    clear H4
    go_step
    go_step
    rename_i K5 h5
    have H5 := Lib.hid h5
    clear h5
    go_wp2_with fail
    obtain ⟨WF, hW⟩ : ∃ wF, ((((((w3.setCell ⟨w.heap.size, 0, none⟩ (.int .i64 y.kind)).setCell ⟨w.heap.size, 1, none⟩ (.string ⟨y.name.toArray⟩)).setCell ⟨w.heap.size, 2, none⟩ (.int .i64 y.vs)).setCell ⟨w.heap.size, 3, none⟩ (.int .i64 y.vn)).setCell ⟨w.heap.size, 4, none⟩ (.string ⟨y.vt.toArray⟩)).setCell ⟨w.heap.size, 5, none⟩ (.slice A n c)) = wF := ⟨_, rfl⟩
    rw [hW]
    obtain ⟨hF, hgF, hRF, hT⟩ := efinish hbw (Nat.le_refl _) hg2 hR2 XB2 y (.slice A n c) (HK.out.keep (D' := fun k => w.heap.size ≤ k ∧ k ≠ w.heap.size) (Same.refl _ _) (fun _ h _ => ⟨h.1, h.2.1⟩)) hW
    clear hW x0 x1 x2 x3 x4 x5 x6 x7 y0 y1 y2 y3 y4 y5 y6 y7
    obtain ⟨d0, d1, d2, d3, d4, d5, d6, d7⟩ := hF
    refine H5.out _ _ ?_
    clear H5
    go_step
    refine bodyPost_ret (v := .agg #[.int .i64 y.kind, .string ⟨y.name.toArray⟩, .int .i64 y.vs, .int .i64 y.vn, .string ⟨y.vt.toArray⟩, .slice A n c]) (by simp [results, Tryz.results53, go_sem, d0, d1, d2, d3, d4, d5, Ex.kind, Ex.name, Ex.vs, Ex.vn, Ex.vt]) rfl ?_
    exact ⟨hgF, _, rfl, hT, hRF⟩
   ·have hlt' : ¬ (lv : Int) < (t : Int) := by omega
    have hlt0 : ((lv : Int) == 0) = false := by rw [beq_eq_false_iff_ne]; omega
    obtain ⟨z, hz⟩ : ∃ z, z4 + W.length = z := ⟨_, rfl⟩
    have hz' : (z4 : Int) + (W.length : Int) = (z : Int) := by omega
    go_wp2_with (rw [hz'])
    have hR7 := hR2.set z
    have hg7 := grown_trans hg2 (grown_at w3 b 1 (.int .i64 (z : Int)))
    have XB7 := XB2.far (p := ⟨b, 1, none⟩) hne2 (.int .i64 (z : Int))
    have KB7 := KB2.far (p := ⟨b, 1, none⟩) hX2 (.int .i64 (z : Int))
    have hk7 := HK.out.keep (D' := fun k => w.heap.size ≤ k ∧ k ≠ w.heap.size ∧ k ≠ X) (Same.grown (grown_at w3 b 1 (.int .i64 (z : Int))) (fun k hk e => by have := Option.some.inj e; omega)) (fun _ h _ => h)
    generalize w3.setCell ⟨b, 1, none⟩ (.int .i64 (z : Int)) = w7 at hR7 hg7 XB7 KB7 hk7 ⊢
    clear r0 r1 r2 r3 x0 x1 x2 x3 x4 x5 x6 x7 y0 y1 y2 y3 y4 y5 y6 y7 XB2 KB2 hR2 hg2 HK
    clear w3
    have HK := Lib.hid hk7
    clear hk7
    have hzl : z ≤ l.length := by omega
    have hbin : ebin l k = some (W, lv, z) := by unfold ebin; rw [HW.out, HV.out, if_neg (by omega), HZ.out, hz, Int.toNat_natCast]
    obtain ⟨g, rfl⟩ : ∃ g, gk = g + 1 := by
     cases gk with
     | zero => have := HL.out; simp [xLoop, Yd.loop] at this
     | succ g => exact ⟨g, rfl⟩
    have hL2 := HL.out
    unfold xLoop at hL2
    rw [Yd.loop, hbin] at hL2
    simp only at hL2
    rw [if_neg hlt] at hL2
    have hwr : IntKind.i64.wrap ((lv : Int) + 1) = (lv : Int) + 1 := Go.IntWalk.i64_in _ (by omega)
    have HSd : Hid (w7.grownBy w7.drew (some b)) := Lib.hid ⟨rfl, rfl, rfl, Nat.le_refl _, fun _ _ _ => rfl⟩
    refine wp_region_T 8 (fun w' => w7.grownBy w' (some b)) (by kernel_rfl) ?_
    refine wpT_takeT (i := 0) (v := ?_) rfl (by kernel_rfl) (by kernel_rfl) (by kernel_rfl) (by kernel_rfl) (by kernel_rfl) (fun _ _ _ h => h) (Or.inl ⟨by rfl, ?_⟩) HSd.out ?_
    rotate_left
    ·(intro wq hSw; obtain ⟨y0, y1, y2, y3, y4, y5, y6, y7⟩ := KB7.grown hSw (fun e => hX1 (Option.some.inj e)); go_simp; all_goals (first | (with_reducible rfl)))
    simp only [zA, zB, zC, Act.put, zD, zE, zF]
    refine wpT_takeT (i := 1) (v := ?_) rfl (by kernel_rfl) (by kernel_rfl) (by kernel_rfl) (by kernel_rfl) (by kernel_rfl) (fun _ _ _ h => h) (Or.inl ⟨by rfl, ?_⟩) HSd.out ?_
    rotate_left
    ·(intro wq hSw; obtain ⟨y0, y1, y2, y3, y4, y5, y6, y7⟩ := KB7.grown hSw (fun e => hX1 (Option.some.inj e)); go_simp; all_goals (first | (with_reducible rfl)))
    simp only [zA, zB, zC, Act.put, zD, zE, zF]
    refine wpT_takeT (i := 2) (v := ?_) rfl (by kernel_rfl) (by kernel_rfl) (by kernel_rfl) (by kernel_rfl) (by kernel_rfl) (fun _ _ _ h => h) (Or.inl ⟨by rfl, ?_⟩) HSd.out ?_
    rotate_left
    ·(intro wq hSw; obtain ⟨y0, y1, y2, y3, y4, y5, y6, y7⟩ := KB7.grown hSw (fun e => hX1 (Option.some.inj e)); go_simp; all_goals (first | (with_reducible rfl)))
    simp only [zA, zB, zC, Act.put, zD, zE, zF]
    refine wpT_takeT (i := 3) (v := ?_) rfl (by kernel_rfl) (by kernel_rfl) (by kernel_rfl) (by kernel_rfl) (by kernel_rfl) (fun _ _ _ h => h) (Or.inl ⟨by rfl, ?_⟩) HSd.out ?_
    rotate_left
    ·(intro wq hSw; obtain ⟨y0, y1, y2, y3, y4, y5, y6, y7⟩ := KB7.grown hSw (fun e => hX1 (Option.some.inj e)); go_simp; all_goals (first | (with_reducible rfl)))
    simp only [zA, zB, zC, Act.put, zD, zE, zF]
    refine wpT_takeT (i := 4) (v := ?_) rfl (by kernel_rfl) (by kernel_rfl) (by kernel_rfl) (by kernel_rfl) (by kernel_rfl) (fun _ _ _ h => h) (Or.inl ⟨by rfl, ?_⟩) HSd.out ?_
    rotate_left
    ·(intro wq hSw; obtain ⟨y0, y1, y2, y3, y4, y5, y6, y7⟩ := KB7.grown hSw (fun e => hX1 (Option.some.inj e)); go_simp; all_goals (first | (with_reducible rfl)))
    simp only [zA, zB, zC, Act.put, zD, zE, zF]
    refine zO 5 fun K hK => ?_
    go_simp
    rw [show (lv : Int) + 1 = ((lv + 1 : Nat) : Int) by omega]
    rcases hr2 : Yd.all unX biX (opdP l) (ebin l) (eclose l) (sk l) g (lv + 1) z with _ | r2
    ·rw [hr2] at hL2; cases hL2
    rw [hr2] at hL2
    refine (HALL.out (lv + 1) z w7.drew r2 (by omega) (by omega) hzl (Yd.more_all hr2 (by omega)) ⟨hR7.c0, hR7.c1, hR7.fr, hR7.lt⟩ (hB.grown (grown_trans hg7 HSd.out))).mono ?_
    rintro e w8 ⟨hg8, hans⟩
    have hg78 := grown_trans HSd.out hg8
    cases r2 with
    | err ec a =>
     obtain rfl := hans
     obtain rfl := Option.some.inj hL2
     have A := HRES.out
     subst A
     exact ⟨rfl, grown_trans hg7 hg78, rfl⟩
    | ok y2 q2 =>
     obtain ⟨v, rfl, hv, hR8⟩ := hans
     have hq2 := ((Yd.all_in (tokens_grow l) hzl hr2) _ _ rfl).2
     simp only at hL2
     have XB8 := XB7.grown hg78 (fun e => hne1 (Option.some.inj e))
     have KB8 := KB7.grown hg78 (fun e => hX1 (Option.some.inj e))
     have hk8 := HK.out.keep (D' := fun k => w.heap.size ≤ k ∧ k ≠ w.heap.size ∧ k ≠ X) (Same.grown hg78 (fun k hk e => by have := Option.some.inj e; omega)) (fun _ h _ => h)
     have hg9 := grown_trans hg7 hg78
     have hX7 : X < w7.heap.size := KB7.lt
     obtain ⟨A2, n2, c2, rfl, hk2⟩ := hv.one'
     refine hK.out _ _ (fun _ => hg78) ?_
     clear hK K
     try simp only [zA, zB, zC, Act.put, zD, zE, zF]
     refine zO 6 fun K hK => ?_
     go_simp
     have hy := hk8.keep (D' := fun k => w.heap.size ≤ k ∧ k ≠ w.heap.size ∧ k ≠ X) (Same.refl _ _) (fun _ h _ => h)
     have hy2 := hk2.keep (D' := fun k => w.heap.size ≤ k ∧ k ≠ w.heap.size ∧ k ≠ X) (Same.refl _ _) (fun k h _ => by have : w7.heap.size ≤ k := h; omega)
     have hX8 : w7.heap.size ≤ w8.heap.size := hg78.size
     have hrow := row_new2 52 hy hy2 (fun _ h => h) (by omega)
     have hb9 : Below w8.heap.size w8 (w8.alloc (.cells #[.int .i64 y.kind, .string ⟨y.name.toArray⟩, .int .i64 y.vs, .int .i64 y.vn, .string ⟨y.vt.toArray⟩, .slice A n c, .int .i64 y2.kind, .string ⟨y2.name.toArray⟩, .int .i64 y2.vs, .int .i64 y2.vn, .string ⟨y2.vt.toArray⟩, .slice A2 n2 c2] 52)) := (Below.refl _ _).alloc (Nat.le_refl _) _
     refine hK.out _ _ (fun _ => grown_belowB hg78 hb9) ?_
     clear hK K
     try simp only [zA, zB, zC, Act.put, zD, zE, zF]
     have XB9 := XB8.keep hb9 XB8.lt
     have KB9 := KB8.keep hb9 KB8.lt
     have hR9 := hR8.keep hb9
     have hg10 := grown_belowB hg9 hb9
     have hS9 := grown_belowB hg78 hb9
     generalize w8.alloc (.cells #[.int .i64 y.kind, .string ⟨y.name.toArray⟩, .int .i64 y.vs, .int .i64 y.vn, .string ⟨y.vt.toArray⟩, .slice A n c, .int .i64 y2.kind, .string ⟨y2.name.toArray⟩, .int .i64 y2.vs, .int .i64 y2.vn, .string ⟨y2.vt.toArray⟩, .slice A2 n2 c2] 52) = w9 at XB9 KB9 hR9 hg10 hS9 hrow ⊢
     clear hb9 hy hy2 hk2 hk8 XB8 KB8 hR8 hg9 hg78 hg8 hv
     refine zO 7 fun K hK => ?_
     go_simp
     refine hK.out _ _ (fun _ => hS9) ?_
     clear hK K
     try simp only [zA, zB, zC, Act.put, zD, zE, zF]
     obtain ⟨y0, y1, y2', y3, y4, y5, y6, y7⟩ := id KB9
     refine zO 8 fun K hK => ?_
     go_simp
     refine hK.out _ _ (fun h => absurd h (by decide)) ?_
     clear hK K
     try simp only [zA, zB, zC, Act.put, zD, zE, zF]
     refine wpT_done (by kernel_rfl) ?_
     obtain ⟨WF, hWF⟩ : ∃ wF, ((((((w9.setCell ⟨X, 0, none⟩ (.int .i64 3)).setCell ⟨X, 1, none⟩ (.string ⟨W.toArray⟩)).setCell ⟨X, 2, none⟩ (.int .i64 0)).setCell ⟨X, 3, none⟩ (.int .i64 0)).setCell ⟨X, 4, none⟩ (.string ⟨#[]⟩)).setCell ⟨X, 5, none⟩ (.slice (some ⟨w8.heap.size, 0, none⟩) 2 2)) = wF := ⟨_, rfl⟩
     rw [hWF]
     have KBF : ExBox WF X (biX W y y2) (.slice (some ⟨w8.heap.size, 0, none⟩) 2 2) := by rw [← hWF]; exact KB9.fill (biX W y y2) _
     have XBF : ExBox WF w.heap.size zeroEx (.slice none 0 0) := by rw [← hWF]; exact (((((XB9.far hX3 _).far hX3 _).far hX3 _).far hX3 _).far hX3 _).far hX3 _
     have hRF : RBox WF b l (sk l q2) := by rw [← hWF]; exact (((((hR9.far hX1 _).far hX1 _).far hX1 _).far hX1 _).far hX1 _).far hX1 _
     have hgF : w.grownBy WF (some b) := by rw [← hWF]; exact grown_in (grown_in (grown_in (grown_in (grown_in (grown_in hg10 (Nat.le_of_lt hX5) _) (Nat.le_of_lt hX5) _) (Nat.le_of_lt hX5) _) (Nat.le_of_lt hX5) _) (Nat.le_of_lt hX5) _) (Nat.le_of_lt hX5) _
     have hkF : Exs (fun k => w.heap.size ≤ k ∧ k ≠ w.heap.size ∧ k ≠ X) WF (.slice (some ⟨w8.heap.size, 0, none⟩) 2 2) (biX W y y2).kids := by rw [← hWF]; exact hrow.keep (Same.fillEx (fun h => h.2.2 rfl) _ _ _ _ _ _) (fun _ h _ => h)
     clear hWF y0 y1 y2' y3 y4 y5 y6 y7 KB9 XB9 hR9 hg10 hrow
     go_wp2_with fail
     go_roundg g
     case measure => omega
     case rel => exact ⟨biX W y y2, q2, sk l q2, 2, 2, some ⟨w8.heap.size, 0, none⟩, by omega, hq2, (sk_le hq2).2, Lib.hid (sk_sk l q2), Lib.hid hL2, hRF, XBF, KBF, hkF, hgF⟩
theorem eone_all (l : Str) (b : Nat) (hl : l.length ≤ 2000) (W0 : World) : ∀ f : Nat,
  (∀ p w r, p ≤ l.length → xOne l f p = some r → RBox w b l p → Bs W0 w b → Calls Tryz.prog 85 #[.pointer (some ⟨b, 0, none⟩)] w (AnsE w b l r)) ∧
  (∀ (k p : Nat) w r, 1 ≤ k → k ≤ 10 → p ≤ l.length → xAll l f k p = some r → RBox w b l p → Bs W0 w b → Calls Tryz.prog 53 #[.pointer (some ⟨b, 0, none⟩), .int .i64 k] w (AnsE w b l (skR l r))) := by
 intro f
 induction f with
 | zero => exact ⟨fun p w r _ h => by simp [xOne, Yd.one] at h, fun k p w r _ _ _ h => by simp [xAll, Yd.all] at h⟩
 | succ f ih =>
  obtain ⟨i1, i2⟩ := ih
  refine ⟨fun p w r hp h hR hB => eone_step l b hl W0 f i1 (fun p w r hp h hR hB => i2 1 p w r (Nat.le_refl _) (by decide) hp h hR hB) p w r hp h hR hB, fun k p w r hk1 hk2 hp h hR hB => ?_⟩
  unfold xAll at h
  rw [Yd.all] at h
  cases h1 : Yd.one unX biX (opdP l) (ebin l) (eclose l) (sk l) f p with
  | none => rw [h1] at h; cases h
  | some r1 =>
   rw [h1] at h
   refine eall_step l b hl W0 k hk1 hk2 p w hR hB r1 (fun w hR hB => i1 p w r1 hp h1 hR hB) (fun x q hq => ((Yd.one_in (tokens_grow l) hp h1) x q hq).2) f i2 r ?_
   cases r1 with
   | err c a => exact h
   | ok x a => exact h
theorem eall_any (l : Str) (b : Nat) (W0 : World) (hl : l.length ≤ 2000) (f p : Nat) (w : World) (r : Yd.Res Ex) (hp : p ≤ l.length) (h : xAll l f 1 p = some r) (hR : RBox w b l p) (hB : Bs W0 w b) :
  Calls Tryz.prog 53 #[.pointer (some ⟨b, 0, none⟩), .int .i64 1] w (AnsE w b l (skR l r)) :=
 (eone_all l b hl W0 f).2 1 p w r (Nat.le_refl _) (by decide) hp h hR hB
set_option maxRecDepth 100000
def ecaught (c : Int) (q : Nat) : FrameMode := .panicking [{ v := .iface 107 (.agg #[.int .i64 c, .int .i64 q]), recovered := true }]
theorem ecatch_thrown (tb eb fb q : Nat) (c : Int) {t0 : Ex} {kv0 x y z : Value} (w : World) (TB : ExBox w tb t0 kv0) (he : w.cell? ⟨eb, 0, none⟩ = some x) (hez : w.frozen? ⟨eb, 0, none⟩ = false) (hf0 : w.cell? ⟨fb, 0, none⟩ = some y) (hf1 : w.cell? ⟨fb, 1, none⟩ = some z) (hfz0 : w.frozen? ⟨fb, 0, none⟩ = false) (hfz1 : w.frozen? ⟨fb, 1, none⟩ = false)
  (h12 : ¬ tb = eb) (h13 : ¬ tb = fb) (h23 : ¬ eb = fb) (h21 : ¬ eb = tb) (h31 : ¬ fb = tb) (h32 : ¬ fb = eb) :
  CallsD Tryz.prog 52 #[.pointer (some ⟨tb, 0, none⟩), .pointer (some ⟨eb, 0, none⟩), .pointer (some ⟨fb, 0, none⟩)] (.panicking (ethrown c q)) w fun e u' w' =>
   e = .returned (.tuple #[]) ∧ u' = ecaught c q ∧ w' = (((((((((w.setCell ⟨tb, 0, none⟩ (.int .i64 0)).setCell ⟨tb, 1, none⟩ (.string ⟨#[]⟩)).setCell ⟨tb, 2, none⟩ (.int .i64 0)).setCell ⟨tb, 3, none⟩ (.int .i64 0)).setCell ⟨tb, 4, none⟩ (.string ⟨#[]⟩)).setCell ⟨tb, 5, none⟩ (.slice none 0 0)).setCell ⟨eb, 0, none⟩ (.int .i64 0)).setCell ⟨fb, 0, none⟩ (.int .i64 c)).setCell ⟨fb, 1, none⟩ (.int .i64 q)).drew := by
 obtain ⟨x0, x1, x2, x3, x4, x5, x6, x7⟩ := TB
 refine callsD_of_wpS Tryz.func52 rfl fun c₀ cs hu => ?_
 apply wpS_seq
 apply wpS_region
 simp [wpOpsS, go_sem, recoverD, hu, ethrown, Tryz.ntmps52, Exit.thenS]
 apply wpS_seq
 apply wpS_region
 simp [wpOpsS, go_sem, Exit.thenS]
 refine wpS_cond (t := true) (by simp [Act.eval]) ?_
 simp only [if_true]
 refine wpS_of_wp ?_
 simp only [List.size_toArray, List.length_cons, List.length_nil, Nat.reduceAdd, Nat.reduceSub, Array.replicate_succ, Array.replicate_zero, List.push_toArray, List.append_toArray, List.nil_append, List.cons_append, List.setIfInBounds_toArray, List.set_cons_zero, List.set_cons_succ]
 have hta : ∀ (v : Value) (w : World), (Instr.typeAssert (.iface 107 v) 20 107 false).run Tryz.prog w = .ok v w := fun _ _ => by kernel_rfl
 have hfl : ∀ (c a : Int) (w : World), (Instr.field 107 (.agg #[.int .i64 c, .int .i64 a]) 0).run Tryz.prog w = .ok (.agg #[.int .i64 c, .int .i64 a]) w := fun _ _ _ => by kernel_rfl
 go_region
 cases c₀
 simp [bodyPostS, results, Tryz.results52, ecaught]
theorem ecaught_facts (tb eb fb q : Nat) (c : Int) {t0 : Ex} {kv0 x y z : Value} (w : World) (TB : ExBox w tb t0 kv0) (he : w.cell? ⟨eb, 0, none⟩ = some x) (hf0 : w.cell? ⟨fb, 0, none⟩ = some y) (hf1 : w.cell? ⟨fb, 1, none⟩ = some z) (w' : World) (h12 : ¬ tb = eb) (h13 : ¬ tb = fb) (h23 : ¬ eb = fb) (h21 : ¬ eb = tb) (h31 : ¬ fb = tb) (h32 : ¬ fb = eb) (hw : w' = (((((((((w.setCell ⟨tb, 0, none⟩ (.int .i64 0)).setCell ⟨tb, 1, none⟩ (.string ⟨#[]⟩)).setCell ⟨tb, 2, none⟩ (.int .i64 0)).setCell ⟨tb, 3, none⟩ (.int .i64 0)).setCell ⟨tb, 4, none⟩ (.string ⟨#[]⟩)).setCell ⟨tb, 5, none⟩ (.slice none 0 0)).setCell ⟨eb, 0, none⟩ (.int .i64 0)).setCell ⟨fb, 0, none⟩ (.int .i64 c)).setCell ⟨fb, 1, none⟩ (.int .i64 q)).drew) :
  ExBox w' tb zeroEx (.slice none 0 0) ∧ w'.cell? ⟨eb, 0, none⟩ = some (.int .i64 0) ∧ w'.cell? ⟨fb, 0, none⟩ = some (.int .i64 c) ∧ w'.cell? ⟨fb, 1, none⟩ = some (.int .i64 q) ∧ ∀ B a, Below B a w → B ≤ tb → B ≤ eb → B ≤ fb → Below B a w' := by
 subst hw
 have V1 := TB.fill zeroEx (.slice none 0 0)
 simp only [zeroEx, Ex.kind, Ex.name, Ex.vs, Ex.vn, Ex.vt] at V1
 have hc : ∀ (k o : Nat), ¬ tb = k → ((((((w.setCell ⟨tb, 0, none⟩ (.int .i64 0)).setCell ⟨tb, 1, none⟩ (.string ⟨([] : Str).toArray⟩)).setCell ⟨tb, 2, none⟩ (.int .i64 0)).setCell ⟨tb, 3, none⟩ (.int .i64 0)).setCell ⟨tb, 4, none⟩ (.string ⟨([] : Str).toArray⟩)).setCell ⟨tb, 5, none⟩ (.slice none 0 0)).cell? ⟨k, o, none⟩ = w.cell? ⟨k, o, none⟩ := by
  intro k o hk
  rw [World.cell?_setCell_far _ _ _ _ hk, World.cell?_setCell_far _ _ _ _ hk, World.cell?_setCell_far _ _ _ _ hk, World.cell?_setCell_far _ _ _ _ hk, World.cell?_setCell_far _ _ _ _ hk, World.cell?_setCell_far _ _ _ _ hk]
 have e1 := hc eb 0 h12
 have e2 := hc fb 0 h13
 have e3 := hc fb 1 h13
 have hb : ∀ B a, Below B a w → B ≤ tb → Below B a ((((((w.setCell ⟨tb, 0, none⟩ (.int .i64 0)).setCell ⟨tb, 1, none⟩ (.string ⟨([] : Str).toArray⟩)).setCell ⟨tb, 2, none⟩ (.int .i64 0)).setCell ⟨tb, 3, none⟩ (.int .i64 0)).setCell ⟨tb, 4, none⟩ (.string ⟨([] : Str).toArray⟩)).setCell ⟨tb, 5, none⟩ (.slice none 0 0)) := fun B a h hB => below_fillEx h hB _ _ _ _ _ _
 rw [he] at e1
 rw [hf0] at e2
 rw [hf1] at e3
 clear hc
 change ExBox ((((((((((w.setCell ⟨tb, 0, none⟩ (.int .i64 0)).setCell ⟨tb, 1, none⟩ (.string ⟨([] : Str).toArray⟩)).setCell ⟨tb, 2, none⟩ (.int .i64 0)).setCell ⟨tb, 3, none⟩ (.int .i64 0)).setCell ⟨tb, 4, none⟩ (.string ⟨([] : Str).toArray⟩)).setCell ⟨tb, 5, none⟩ (.slice none 0 0)).setCell ⟨eb, 0, none⟩ (.int .i64 0)).setCell ⟨fb, 0, none⟩ (.int .i64 c)).setCell ⟨fb, 1, none⟩ (.int .i64 q)).drew) _ _ _ ∧ World.cell? ((((((((((w.setCell ⟨tb, 0, none⟩ (.int .i64 0)).setCell ⟨tb, 1, none⟩ (.string ⟨([] : Str).toArray⟩)).setCell ⟨tb, 2, none⟩ (.int .i64 0)).setCell ⟨tb, 3, none⟩ (.int .i64 0)).setCell ⟨tb, 4, none⟩ (.string ⟨([] : Str).toArray⟩)).setCell ⟨tb, 5, none⟩ (.slice none 0 0)).setCell ⟨eb, 0, none⟩ (.int .i64 0)).setCell ⟨fb, 0, none⟩ (.int .i64 c)).setCell ⟨fb, 1, none⟩ (.int .i64 q)).drew) _ = _ ∧ World.cell? ((((((((((w.setCell ⟨tb, 0, none⟩ (.int .i64 0)).setCell ⟨tb, 1, none⟩ (.string ⟨([] : Str).toArray⟩)).setCell ⟨tb, 2, none⟩ (.int .i64 0)).setCell ⟨tb, 3, none⟩ (.int .i64 0)).setCell ⟨tb, 4, none⟩ (.string ⟨([] : Str).toArray⟩)).setCell ⟨tb, 5, none⟩ (.slice none 0 0)).setCell ⟨eb, 0, none⟩ (.int .i64 0)).setCell ⟨fb, 0, none⟩ (.int .i64 c)).setCell ⟨fb, 1, none⟩ (.int .i64 q)).drew) _ = _ ∧ World.cell? ((((((((((w.setCell ⟨tb, 0, none⟩ (.int .i64 0)).setCell ⟨tb, 1, none⟩ (.string ⟨([] : Str).toArray⟩)).setCell ⟨tb, 2, none⟩ (.int .i64 0)).setCell ⟨tb, 3, none⟩ (.int .i64 0)).setCell ⟨tb, 4, none⟩ (.string ⟨([] : Str).toArray⟩)).setCell ⟨tb, 5, none⟩ (.slice none 0 0)).setCell ⟨eb, 0, none⟩ (.int .i64 0)).setCell ⟨fb, 0, none⟩ (.int .i64 c)).setCell ⟨fb, 1, none⟩ (.int .i64 q)).drew) _ = _ ∧ ∀ B a, Below B a w → B ≤ tb → B ≤ eb → B ≤ fb → Below B a ((((((((((w.setCell ⟨tb, 0, none⟩ (.int .i64 0)).setCell ⟨tb, 1, none⟩ (.string ⟨([] : Str).toArray⟩)).setCell ⟨tb, 2, none⟩ (.int .i64 0)).setCell ⟨tb, 3, none⟩ (.int .i64 0)).setCell ⟨tb, 4, none⟩ (.string ⟨([] : Str).toArray⟩)).setCell ⟨tb, 5, none⟩ (.slice none 0 0)).setCell ⟨eb, 0, none⟩ (.int .i64 0)).setCell ⟨fb, 0, none⟩ (.int .i64 c)).setCell ⟨fb, 1, none⟩ (.int .i64 q)).drew)
 generalize ((((((w.setCell ⟨tb, 0, none⟩ (.int .i64 0)).setCell ⟨tb, 1, none⟩ (.string ⟨([] : Str).toArray⟩)).setCell ⟨tb, 2, none⟩ (.int .i64 0)).setCell ⟨tb, 3, none⟩ (.int .i64 0)).setCell ⟨tb, 4, none⟩ (.string ⟨([] : Str).toArray⟩)).setCell ⟨tb, 5, none⟩ (.slice none 0 0)) = w1 at V1 e1 e2 e3 hb ⊢
 have V2 := ((V1.far (p := ⟨eb, 0, none⟩) h21 (.int .i64 0)).far (p := ⟨fb, 0, none⟩) h31 (.int .i64 c)).far (p := ⟨fb, 1, none⟩) h31 (.int .i64 q)
 have ne : ∀ {w : World} {i j : Nat} {u : Value}, i ≠ j → (w.setCell ⟨fb, i, none⟩ u).cell? ⟨fb, j, none⟩ = w.cell? ⟨fb, j, none⟩ := fun h => World.cell?_setCell_other _ _ _ _ (fun e => h (by injection e))
 refine ⟨⟨V2.c0, V2.c1, V2.c2, V2.c3, V2.c4, V2.c5, V2.fr, V2.lt⟩, ?_, ?_, ?_, fun B a h h1 h2 h3 => ((((hb B a h h1).setCell h2 _).setCell h3 _).setCell h3 _).drew⟩
 ·show World.cell? (((w1.setCell ⟨eb, 0, none⟩ (.int .i64 0)).setCell ⟨fb, 0, none⟩ (.int .i64 c)).setCell ⟨fb, 1, none⟩ (.int .i64 q)) ⟨eb, 0, none⟩ = _
  rw [World.cell?_setCell_far _ _ _ _ h32, World.cell?_setCell_far _ _ _ _ h32]
  exact World.cell?_setCell_same' _ _ _ (by rw [e1]; rfl)
 ·show World.cell? (((w1.setCell ⟨eb, 0, none⟩ (.int .i64 0)).setCell ⟨fb, 0, none⟩ (.int .i64 c)).setCell ⟨fb, 1, none⟩ (.int .i64 q)) ⟨fb, 0, none⟩ = _
  rw [ne (by decide)]
  exact World.cell?_setCell_same' _ _ _ (by rw [World.cell?_setCell_far _ _ _ _ h23, e2]; rfl)
 ·show World.cell? (((w1.setCell ⟨eb, 0, none⟩ (.int .i64 0)).setCell ⟨fb, 0, none⟩ (.int .i64 c)).setCell ⟨fb, 1, none⟩ (.int .i64 q)) ⟨fb, 1, none⟩ = _
  exact World.cell?_setCell_same' _ _ _ (by rw [ne (by decide), World.cell?_setCell_far _ _ _ _ h23, e3]; rfl)
theorem elaid_facts (tb eb fb : Nat) {t0 : Ex} {kv0 x y z : Value} (w : World) (TB : ExBox w tb t0 kv0) (he : w.cell? ⟨eb, 0, none⟩ = some x) (hf0 : w.cell? ⟨fb, 0, none⟩ = some y) (hf1 : w.cell? ⟨fb, 1, none⟩ = some z) (h12 : ¬ tb = eb) (h13 : ¬ tb = fb) (h23 : ¬ eb = fb) (h21 : ¬ eb = tb) (h31 : ¬ fb = tb) (h32 : ¬ fb = eb) (t : Ex) (kv : Value) (n c a : Int) :
  ExBox (((((((((w.setCell ⟨tb, 0, none⟩ (.int .i64 t.kind)).setCell ⟨tb, 1, none⟩ (.string ⟨t.name.toArray⟩)).setCell ⟨tb, 2, none⟩ (.int .i64 t.vs)).setCell ⟨tb, 3, none⟩ (.int .i64 t.vn)).setCell ⟨tb, 4, none⟩ (.string ⟨t.vt.toArray⟩)).setCell ⟨tb, 5, none⟩ kv).setCell ⟨eb, 0, none⟩ (.int .i64 n)).setCell ⟨fb, 0, none⟩ (.int .i64 c)).setCell ⟨fb, 1, none⟩ (.int .i64 a)) tb t kv ∧ (((((((((w.setCell ⟨tb, 0, none⟩ (.int .i64 t.kind)).setCell ⟨tb, 1, none⟩ (.string ⟨t.name.toArray⟩)).setCell ⟨tb, 2, none⟩ (.int .i64 t.vs)).setCell ⟨tb, 3, none⟩ (.int .i64 t.vn)).setCell ⟨tb, 4, none⟩ (.string ⟨t.vt.toArray⟩)).setCell ⟨tb, 5, none⟩ kv).setCell ⟨eb, 0, none⟩ (.int .i64 n)).setCell ⟨fb, 0, none⟩ (.int .i64 c)).setCell ⟨fb, 1, none⟩ (.int .i64 a)).cell? ⟨eb, 0, none⟩ = some (.int .i64 n) ∧ (((((((((w.setCell ⟨tb, 0, none⟩ (.int .i64 t.kind)).setCell ⟨tb, 1, none⟩ (.string ⟨t.name.toArray⟩)).setCell ⟨tb, 2, none⟩ (.int .i64 t.vs)).setCell ⟨tb, 3, none⟩ (.int .i64 t.vn)).setCell ⟨tb, 4, none⟩ (.string ⟨t.vt.toArray⟩)).setCell ⟨tb, 5, none⟩ kv).setCell ⟨eb, 0, none⟩ (.int .i64 n)).setCell ⟨fb, 0, none⟩ (.int .i64 c)).setCell ⟨fb, 1, none⟩ (.int .i64 a)).cell? ⟨fb, 0, none⟩ = some (.int .i64 c) ∧ (((((((((w.setCell ⟨tb, 0, none⟩ (.int .i64 t.kind)).setCell ⟨tb, 1, none⟩ (.string ⟨t.name.toArray⟩)).setCell ⟨tb, 2, none⟩ (.int .i64 t.vs)).setCell ⟨tb, 3, none⟩ (.int .i64 t.vn)).setCell ⟨tb, 4, none⟩ (.string ⟨t.vt.toArray⟩)).setCell ⟨tb, 5, none⟩ kv).setCell ⟨eb, 0, none⟩ (.int .i64 n)).setCell ⟨fb, 0, none⟩ (.int .i64 c)).setCell ⟨fb, 1, none⟩ (.int .i64 a)).cell? ⟨fb, 1, none⟩ = some (.int .i64 a) ∧ (∀ B v, Below B v w → B ≤ tb → B ≤ eb → B ≤ fb → Below B v (((((((((w.setCell ⟨tb, 0, none⟩ (.int .i64 t.kind)).setCell ⟨tb, 1, none⟩ (.string ⟨t.name.toArray⟩)).setCell ⟨tb, 2, none⟩ (.int .i64 t.vs)).setCell ⟨tb, 3, none⟩ (.int .i64 t.vn)).setCell ⟨tb, 4, none⟩ (.string ⟨t.vt.toArray⟩)).setCell ⟨tb, 5, none⟩ kv).setCell ⟨eb, 0, none⟩ (.int .i64 n)).setCell ⟨fb, 0, none⟩ (.int .i64 c)).setCell ⟨fb, 1, none⟩ (.int .i64 a))) ∧ Same (fun k => k ≠ tb ∧ k ≠ eb ∧ k ≠ fb) w (((((((((w.setCell ⟨tb, 0, none⟩ (.int .i64 t.kind)).setCell ⟨tb, 1, none⟩ (.string ⟨t.name.toArray⟩)).setCell ⟨tb, 2, none⟩ (.int .i64 t.vs)).setCell ⟨tb, 3, none⟩ (.int .i64 t.vn)).setCell ⟨tb, 4, none⟩ (.string ⟨t.vt.toArray⟩)).setCell ⟨tb, 5, none⟩ kv).setCell ⟨eb, 0, none⟩ (.int .i64 n)).setCell ⟨fb, 0, none⟩ (.int .i64 c)).setCell ⟨fb, 1, none⟩ (.int .i64 a)) := by
 have V1 := TB.fill t kv
 have hc : ∀ (k o : Nat), ¬ tb = k → ((((((w.setCell ⟨tb, 0, none⟩ (.int .i64 t.kind)).setCell ⟨tb, 1, none⟩ (.string ⟨t.name.toArray⟩)).setCell ⟨tb, 2, none⟩ (.int .i64 t.vs)).setCell ⟨tb, 3, none⟩ (.int .i64 t.vn)).setCell ⟨tb, 4, none⟩ (.string ⟨t.vt.toArray⟩)).setCell ⟨tb, 5, none⟩ kv).cell? ⟨k, o, none⟩ = w.cell? ⟨k, o, none⟩ := by
  intro k o hk
  rw [World.cell?_setCell_far _ _ _ _ hk, World.cell?_setCell_far _ _ _ _ hk, World.cell?_setCell_far _ _ _ _ hk, World.cell?_setCell_far _ _ _ _ hk, World.cell?_setCell_far _ _ _ _ hk, World.cell?_setCell_far _ _ _ _ hk]
 have e1 := (hc eb 0 h12).trans he
 have e2 := (hc fb 0 h13).trans hf0
 have e3 := (hc fb 1 h13).trans hf1
 have hb : ∀ B v, Below B v w → B ≤ tb → Below B v ((((((w.setCell ⟨tb, 0, none⟩ (.int .i64 t.kind)).setCell ⟨tb, 1, none⟩ (.string ⟨t.name.toArray⟩)).setCell ⟨tb, 2, none⟩ (.int .i64 t.vs)).setCell ⟨tb, 3, none⟩ (.int .i64 t.vn)).setCell ⟨tb, 4, none⟩ (.string ⟨t.vt.toArray⟩)).setCell ⟨tb, 5, none⟩ kv) := fun B v h hB => below_fillEx h hB _ _ _ _ _ _
 have hs : Same (fun k => k ≠ tb ∧ k ≠ eb ∧ k ≠ fb) w ((((((w.setCell ⟨tb, 0, none⟩ (.int .i64 t.kind)).setCell ⟨tb, 1, none⟩ (.string ⟨t.name.toArray⟩)).setCell ⟨tb, 2, none⟩ (.int .i64 t.vs)).setCell ⟨tb, 3, none⟩ (.int .i64 t.vn)).setCell ⟨tb, 4, none⟩ (.string ⟨t.vt.toArray⟩)).setCell ⟨tb, 5, none⟩ kv) := Same.fillEx (fun h => h.1 rfl) _ _ _ _ _ _
 have hz : ((((((w.setCell ⟨tb, 0, none⟩ (.int .i64 t.kind)).setCell ⟨tb, 1, none⟩ (.string ⟨t.name.toArray⟩)).setCell ⟨tb, 2, none⟩ (.int .i64 t.vs)).setCell ⟨tb, 3, none⟩ (.int .i64 t.vn)).setCell ⟨tb, 4, none⟩ (.string ⟨t.vt.toArray⟩)).setCell ⟨tb, 5, none⟩ kv).heap.size = w.heap.size := by simp only [World.size_setCell]
 clear hc
 generalize ((((((w.setCell ⟨tb, 0, none⟩ (.int .i64 t.kind)).setCell ⟨tb, 1, none⟩ (.string ⟨t.name.toArray⟩)).setCell ⟨tb, 2, none⟩ (.int .i64 t.vs)).setCell ⟨tb, 3, none⟩ (.int .i64 t.vn)).setCell ⟨tb, 4, none⟩ (.string ⟨t.vt.toArray⟩)).setCell ⟨tb, 5, none⟩ kv) = w1 at V1 e1 e2 e3 hb hs hz ⊢
 have V2 := ((V1.far (p := ⟨eb, 0, none⟩) h21 (.int .i64 n)).far (p := ⟨fb, 0, none⟩) h31 (.int .i64 c)).far (p := ⟨fb, 1, none⟩) h31 (.int .i64 a)
 have ne : ∀ {w : World} {i j : Nat} {u : Value}, i ≠ j → (w.setCell ⟨fb, i, none⟩ u).cell? ⟨fb, j, none⟩ = w.cell? ⟨fb, j, none⟩ := fun h => World.cell?_setCell_other _ _ _ _ (fun e => h (by injection e))
 refine ⟨V2, ?_, ?_, ?_, fun B v h h1 h2 h3 => (((hb B v h h1).setCell h2 _).setCell h3 _).setCell h3 _, ?_⟩
 ·rw [World.cell?_setCell_far _ _ _ _ h32, World.cell?_setCell_far _ _ _ _ h32]
  exact World.cell?_setCell_same' _ _ _ (by rw [e1]; rfl)
 ·rw [ne (by decide)]
  exact World.cell?_setCell_same' _ _ _ (by rw [World.cell?_setCell_far _ _ _ _ h23, e2]; rfl)
 ·exact World.cell?_setCell_same' _ _ _ (by rw [ne (by decide), World.cell?_setCell_far _ _ _ _ h23, e3]; rfl)
 ·refine ((hs.trans (by omega) (Same.set (fun h => h.2.1 rfl))).trans ?_ (Same.set (fun h => h.2.2 rfl))).trans ?_ (Same.set (fun h => h.2.2 rfl))
  ·simp only [World.size_setCell]; omega
  ·simp only [World.size_setCell]; omega
theorem ecatch_idle (tb eb fb : Nat) (w : World) :
  CallsD Tryz.prog 52 #[.pointer (some ⟨tb, 0, none⟩), .pointer (some ⟨eb, 0, none⟩), .pointer (some ⟨fb, 0, none⟩)] .returning w fun e u' w' => e = .returned (.tuple #[]) ∧ u' = .returning ∧ w' = w := by
 refine callsD_of_wpS Tryz.func52 rfl fun c₀ cs hu => ?_
 apply wpS_seq
 apply wpS_region
 simp [wpOpsS, go_sem, recoverD, hu, Tryz.ntmps52, Exit.thenS]
 apply wpS_seq
 apply wpS_region
 simp [wpOpsS, go_sem, Exit.thenS]
 refine wpS_cond (t := false) (by simp [Act.eval]) ?_
 simp only [Bool.false_eq_true, if_false]
 refine wpS_of_wp (wp_skip ?_)
 cases c₀
 simp_all [bodyPostS, results, Tryz.results52]
theorem egrown_cell {w w' : World} {b k o : Nat} {v : Value} (hg : w.grownBy w' (some b)) (hk : k ≠ b) (h : w.cell? ⟨k, o, none⟩ = some v) : w'.cell? ⟨k, o, none⟩ = some v :=
 (World.cell?_of_block (a := ⟨k, o, none⟩) (hg.block k (cell_lt h) (fun e => hk (by injection e)))).trans h
theorem egrown_frozen {w w' : World} {b k o : Nat} {v : Value} {z : Bool} (hg : w.grownBy w' (some b)) (hk : k ≠ b) (h : w.cell? ⟨k, o, none⟩ = some v) (hz : w.frozen? ⟨k, o, none⟩ = z) : w'.frozen? ⟨k, o, none⟩ = z :=
 (World.frozen?_of_block (a := ⟨k, o, none⟩) (hg.block k (cell_lt h) (fun e => hk (by injection e)))).trans hz
def exBegin (l : Str) (p : Nat) (r : Yd.Res Ex) : Ex × Nat × Int × Nat :=
 if 2000 < l.length then (zeroEx, 0, 2, 0) else match r with
  | .ok x q => if exErr x = 0 then (x, sk l q, 0, 0) else (zeroEx, 0, 2, 0)
  | .err c q => (zeroEx, 0, c, q)
set_option maxHeartbeats 4000000 in
theorem eBegin_any (l : Str) (at_ : Int) (p : Nat) (hp : p ≤ l.length) (hpc : (p : Int) = max 0 (min at_ l.length)) (w : World) (hL : Laid w) (hl : l.length ≤ 9223372036854775807) (f : Nat) (rr : Yd.Res Ex) (hrr : Yd.all unX biX (opdP l) (ebin l) (eclose l) (sk l) f 1 p = some rr) :
  Calls Tryz.prog 19 #[.string ⟨l.toArray⟩, .int .i64 at_] w fun e w' => Below w.heap.size w w' ∧ ∃ v, e = .returned (.tuple #[v, .int .i64 (exBegin l p rr).2.1, .agg #[.int .i64 (exBegin l p rr).2.2.1, .int .i64 (exBegin l p rr).2.2.2]]) ∧ ExV (fun k => w.heap.size ≤ k) w' v (exBegin l p rr).1 := by
 have hmf : ∀ (fn : Fn) (first cap : Array Value) (w : World), (Instr.makeFunc fn first cap).run Tryz.prog w = .ok (.func fn first cap) w := fun _ _ _ _ => rfl
 obtain ⟨TT, EE, CC, AA, hA⟩ : ∃ t e c a, exBegin l p rr = (t, e, c, a) := ⟨_, _, _, _, rfl⟩
 rw [hA]
 simp only
 have HA := Lib.hid hA; clear hA
 by_cases h2000 : l.length ≤ 2000
 ·have hd : decide ((2000 : Int) < (l.length : Int)) = false := by simp; omega
  go_enter_defers Tryz.func19, Tryz.ntmps19
  go_wp2_with fail
  rw [← hpc]
  obtain ⟨W, hW⟩ : ∃ x, (((w.alloc (.cells #[.int .i64 0, .string ⟨#[]⟩, .int .i64 0, .int .i64 0, .string ⟨#[]⟩, .slice none 0 0] 52)).alloc (.cells #[.int .i64 0] 3)).alloc (.cells #[.int .i64 0, .int .i64 0] 37)).alloc (.cells #[.string ⟨l.toArray⟩, .int .i64 (p : Int)] 105) = x := ⟨_, rfl⟩
  have hbW : Below w.heap.size w W := by subst hW; go_grown
  have TB : ExBox W w.heap.size zeroEx (.slice none 0 0) := by subst hW; exact ⟨by simp [go_sem]; rfl, by simp [go_sem]; rfl, by simp [go_sem]; rfl, by simp [go_sem]; rfl, by simp [go_sem]; rfl, by simp [go_sem], fun j => by simp [go_sem], by simp; omega⟩
  have e0 : W.cell? ⟨w.heap.size + 1, 0, none⟩ = some (.int .i64 0) := by subst hW; simp [go_sem]
  have ez : W.frozen? ⟨w.heap.size + 1, 0, none⟩ = false := by subst hW; simp [go_sem]
  have f0 : W.cell? ⟨w.heap.size + 1 + 1, 0, none⟩ = some (.int .i64 0) := by subst hW; simp [go_sem]
  have f1 : W.cell? ⟨w.heap.size + 1 + 1, 1, none⟩ = some (.int .i64 0) := by subst hW; simp [go_sem]
  have fz0 : W.frozen? ⟨w.heap.size + 1 + 1, 0, none⟩ = false := by subst hW; simp [go_sem]
  have fz1 : W.frozen? ⟨w.heap.size + 1 + 1, 1, none⟩ = false := by subst hW; simp [go_sem]
  have RB : RBox W (w.heap.size + 1 + 1 + 1) l p := by subst hW; exact ⟨by simp [go_sem], by simp [go_sem], fun j => by simp [go_sem], by simp⟩
  rw [hW]
  clear hW
  refine (eall_any l (w.heap.size + 1 + 1 + 1) w h2000 f p W rr hp hrr RB ⟨hL, hbW, by omega⟩).mono ?_
  rintro e w5 ⟨hg, hans⟩
  have hb5 : Below w.heap.size w w5 := hbW.grown hg hbW.size (fun k e => by have := Option.some.inj e; omega)
  have TB5 := TB.grown hg (fun e => by have := Option.some.inj e; omega)
  have e05 := egrown_cell hg (by omega) e0
  have f05 := egrown_cell hg (by omega) f0
  have f15 := egrown_cell hg (by omega) f1
  have ez5 := egrown_frozen hg (by omega) e0 ez
  have fz05 := egrown_frozen hg (by omega) f0 fz0
  have fz15 := egrown_frozen hg (by omega) f1 fz1
  have htook := Yd.all_in (tokens_grow l) hp hrr
  cases rr with
  | err cc q =>
   simp only [skR] at hans
   subst hans
   have hres : exBegin l p (.err cc q) = (zeroEx, 0, cc, q) := by unfold exBegin; rw [if_neg (by omega)]
   have hq := hres.symm.trans HA.out
   simp only [Prod.mk.injEq] at hq
   obtain ⟨rfl, rfl, rfl, rfl⟩ := hq
   refine leaves_cons (f := 52) (args := #[.pointer (some ⟨w.heap.size, 0, none⟩), .pointer (some ⟨w.heap.size + 1, 0, none⟩), .pointer (some ⟨w.heap.size + 1 + 1, 0, none⟩)]) (by simp) (by simp [go_sem]) ?_
   refine (ecatch_thrown w.heap.size (w.heap.size + 1) (w.heap.size + 1 + 1) q cc w5 TB5 e05 ez5 f05 f15 fz05 fz15 (by omega) (by omega) (by omega) (by omega) (by omega) (by omega) ).mono ?_
   rintro e u' w6 ⟨rfl, rfl, hw6⟩
   obtain ⟨TB6, e6, f06, f16, hb6⟩ := ecaught_facts w.heap.size (w.heap.size + 1) (w.heap.size + 1 + 1) q cc w5 TB5 e05 f05 f15 w6 (by omega) (by omega) (by omega) (by omega) (by omega) (by omega)  hw6
   have hb6 := hb6 _ _ hb5 (Nat.le_refl _) (by omega) (by omega)
   clear hw6
   obtain ⟨x0, x1, x2, x3, x4, x5, x6, x7⟩ := id TB6
   simp only [zeroEx, Ex.kind, Ex.name, Ex.vs, Ex.vn, Ex.vt] at x0 x1 x2 x3 x4
   refine ⟨.tuple #[.agg #[.int .i64 0, .string ⟨#[]⟩, .int .i64 0, .int .i64 0, .string ⟨#[]⟩, .slice none 0 0], .int .i64 0, .agg #[.int .i64 cc, .int .i64 q]], by simp [results, Tryz.results19, go_sem, x0, x1, x2, x3, x4, x5, e6, f06, f16], hb6, _, rfl, zero_ex _ _⟩
  | ok t q =>
   simp only [skR] at hans
   obtain ⟨v, rfl, hT, hR5⟩ := hans
   obtain ⟨ht1, ht2⟩ : p < q ∧ q ≤ l.length := htook _ _ rfl
   have hWlt : w.heap.size + 1 + 1 + 1 < W.heap.size := RB.lt
   have hfit : ExFit 1048576 t := all_fit hrr
   clear hg TB e0 ez f0 f1 fz0 fz1 RB hbW
   obtain ⟨A2, n2, c2, rfl, k2⟩ := hT.one'
   obtain ⟨rfl, -, -, -⟩ := k2.src
   have K2 := Lib.hid k2
   clear k2 hT
   obtain ⟨x0, x1, x2, x3, x4, x5, x6, x7⟩ := id TB5
   have n1 : ¬ w.heap.size = w.heap.size + 1 := by omega
   have n2 : ¬ w.heap.size = w.heap.size + 1 + 1 := by omega
   have n3 : ¬ w.heap.size = w.heap.size + 1 + 1 + 1 := by omega
   go_wp2_with fail
   have TB6 := TB5.fill t (.slice A2 t.kids.length c2)
   have hb6 := below_fillEx hb5 (Nat.le_refl _) (.int .i64 t.kind) (.string ⟨t.name.toArray⟩) (.int .i64 t.vs) (.int .i64 t.vn) (.string ⟨t.vt.toArray⟩) (.slice A2 t.kids.length c2)
   have hsm : Same (· ≠ w.heap.size) w5 ((((((w5.setCell ⟨w.heap.size, 0, none⟩ (.int .i64 t.kind)).setCell ⟨w.heap.size, 1, none⟩ (.string ⟨t.name.toArray⟩)).setCell ⟨w.heap.size, 2, none⟩ (.int .i64 t.vs)).setCell ⟨w.heap.size, 3, none⟩ (.int .i64 t.vn)).setCell ⟨w.heap.size, 4, none⟩ (.string ⟨t.vt.toArray⟩)).setCell ⟨w.heap.size, 5, none⟩ (.slice A2 t.kids.length c2)) := Same.fillEx (fun h => h rfl) _ _ _ _ _ _
   have RB6 : RBox ((((((w5.setCell ⟨w.heap.size, 0, none⟩ (.int .i64 t.kind)).setCell ⟨w.heap.size, 1, none⟩ (.string ⟨t.name.toArray⟩)).setCell ⟨w.heap.size, 2, none⟩ (.int .i64 t.vs)).setCell ⟨w.heap.size, 3, none⟩ (.int .i64 t.vn)).setCell ⟨w.heap.size, 4, none⟩ (.string ⟨t.vt.toArray⟩)).setCell ⟨w.heap.size, 5, none⟩ (.slice A2 t.kids.length c2)) (w.heap.size + 1 + 1 + 1) l (sk l q) := (((((hR5.far n3 _).far n3 _).far n3 _).far n3 _).far n3 _).far n3 _
   have e06 := hsm.cell (by omega) e05
   have f06 := hsm.cell (by omega) f05
   have f16 := hsm.cell (by omega) f15
   have hz : ∀ (k o : Nat), ((((((w5.setCell ⟨w.heap.size, 0, none⟩ (.int .i64 t.kind)).setCell ⟨w.heap.size, 1, none⟩ (.string ⟨t.name.toArray⟩)).setCell ⟨w.heap.size, 2, none⟩ (.int .i64 t.vs)).setCell ⟨w.heap.size, 3, none⟩ (.int .i64 t.vn)).setCell ⟨w.heap.size, 4, none⟩ (.string ⟨t.vt.toArray⟩)).setCell ⟨w.heap.size, 5, none⟩ (.slice A2 t.kids.length c2)).frozen? ⟨k, o, none⟩ = w5.frozen? ⟨k, o, none⟩ := fun k o => by simp only [World.frozen?_setCell]
   have ez6 := (hz (w.heap.size + 1) 0).trans ez5
   have fz06 := (hz (w.heap.size + 1 + 1) 0).trans fz05
   have fz16 := (hz (w.heap.size + 1 + 1) 1).trans fz15
   replace K2 := Lib.hid (K2.out.keep (D' := fun k => w.heap.size + 1 + 1 + 1 < k) (fun k hk hl => hsm k (by have : W.heap.size ≤ k := hk; omega) hl) (fun k hk _ => by have : W.heap.size ≤ k := hk; omega))
   generalize ((((((w5.setCell ⟨w.heap.size, 0, none⟩ (.int .i64 t.kind)).setCell ⟨w.heap.size, 1, none⟩ (.string ⟨t.name.toArray⟩)).setCell ⟨w.heap.size, 2, none⟩ (.int .i64 t.vs)).setCell ⟨w.heap.size, 3, none⟩ (.int .i64 t.vn)).setCell ⟨w.heap.size, 4, none⟩ (.string ⟨t.vt.toArray⟩)).setCell ⟨w.heap.size, 5, none⟩ (.slice A2 t.kids.length c2)) = w6 at TB6 hb6 RB6 e06 f06 f16 ez6 fz06 fz16 K2 ⊢
   clear hsm hz TB5 hb5 hR5 e05 f05 f15 ez5 fz05 fz15 x0 x1 x2 x3 x4 x5 x6 x7
   clear w5
   clear hWlt
   refine (eblanks_any l (w.heap.size + 1 + 1 + 1) (sk l q) w6 h2000 (sk_le ht2).2 RB6).mono ?_
   rw [sk_sk]
   rintro e w7 ⟨rfl, hg, RB7⟩
   have hb7 : Below w.heap.size w w7 := hb6.grown hg hb6.size (fun k e => by have := Option.some.inj e; omega)
   have TB7 := TB6.grown hg (fun e => by have := Option.some.inj e; omega)
   have e07 := egrown_cell hg (by omega) e06
   have f07 := egrown_cell hg (by omega) f06
   have f17 := egrown_cell hg (by omega) f16
   have ez7 := egrown_frozen hg (by omega) e06 ez6
   have fz07 := egrown_frozen hg (by omega) f06 fz06
   have fz17 := egrown_frozen hg (by omega) f16 fz16
   have hsm : Same (fun k => w.heap.size + 1 + 1 + 1 < k) w6 w7 := Same.grown hg (fun k hk e => by have := Option.some.inj e; omega)
   replace K2 := Lib.hid (K2.out.keep (D' := fun k => w.heap.size + 1 + 1 + 1 < k) hsm (fun _ h _ => h))
   clear hsm hg TB6 hb6 RB6 e06 f06 f16 ez6 fz06 fz16
   clear w6
   obtain ⟨x0, x1, x2, x3, x4, x5, x6, x7⟩ := id TB7
   go_wp2_with fail
   refine (eCheck_any t _ w7 (exV_of K2.out) hfit (hL.below hb7).t).mono ?_
   obtain ⟨E, hE⟩ : ∃ x, exErr t = x := ⟨_, rfl⟩
   rw [hE]
   have HE := Lib.hid hE; clear hE
   rintro e w8 ⟨rfl, hb8⟩
   have TB8 := TB7.keep hb8 TB7.lt
   have RB8 := RB7.keep hb8
   have e08 := cell_keep e07 hb8
   have f08 := cell_keep f07 hb8
   have f18 := cell_keep f17 hb8
   have ez8 := (hb8.frozen (p := ⟨w.heap.size + 1, 0, none⟩) (cell_lt e07)).trans ez7
   have fz08 := (hb8.frozen (p := ⟨w.heap.size + 1 + 1, 0, none⟩) (cell_lt f07)).trans fz07
   have fz18 := (hb8.frozen (p := ⟨w.heap.size + 1 + 1, 1, none⟩) (cell_lt f07)).trans fz17
   have hb9 := chain hb7 hb8
   replace K2 := Lib.hid (K2.out.keep (D' := fun k => w.heap.size + 1 + 1 + 1 < k) (Same.below hb8) (fun _ h _ => h))
   clear TB7 RB7 e07 f07 f17 ez7 fz07 fz17 hb7 hb8 x0 x1 x2 x3 x4 x5 x6 x7
   clear w7
   obtain ⟨x0, x1, x2, x3, x4, x5, x6, x7⟩ := id TB8
   obtain ⟨r0, r1, r2, r3⟩ := id RB8
   by_cases hE0 : E = 0
   ·subst hE0
    go_wp2_with fail
    have hres : exBegin l p (.ok t q) = (t, sk l q, 0, 0) := by unfold exBegin; rw [if_neg (by omega)]; simp only; rw [HE.out, if_pos rfl]
    have hq := hres.symm.trans HA.out
    simp only [Prod.mk.injEq] at hq
    obtain ⟨rfl, rfl, rfl, rfl⟩ := hq
    go_region
    go_wp2_with fail
    obtain ⟨TB9, e09, f09, f19, hbl, hsm⟩ := elaid_facts w.heap.size (w.heap.size + 1) (w.heap.size + 1 + 1) w8 TB8 e08 f08 f18 (by omega) (by omega) (by omega) (by omega) (by omega) (by omega)  t (.slice A2 t.kids.length c2) (sk l q : Int) 0 0
    have hb10 := (hbl _ _ hb9 (Nat.le_refl _) (by omega) (by omega)).drew
    have K4 := K2.out.keep (D' := fun k => w.heap.size ≤ k) (fun k hk hl => hsm k (by have : w.heap.size + 1 + 1 + 1 < k := hk; omega) hl) (fun k hk _ => by have : w.heap.size + 1 + 1 + 1 < k := hk; omega)
    generalize hw9 : (((((((((w8.setCell ⟨w.heap.size, 0, none⟩ (.int .i64 t.kind)).setCell ⟨w.heap.size, 1, none⟩ (.string ⟨t.name.toArray⟩)).setCell ⟨w.heap.size, 2, none⟩ (.int .i64 t.vs)).setCell ⟨w.heap.size, 3, none⟩ (.int .i64 t.vn)).setCell ⟨w.heap.size, 4, none⟩ (.string ⟨t.vt.toArray⟩)).setCell ⟨w.heap.size, 5, none⟩ (.slice A2 t.kids.length c2)).setCell ⟨w.heap.size + 1, 0, none⟩ (.int .i64 (sk l q : Int))).setCell ⟨w.heap.size + 1 + 1, 0, none⟩ (.int .i64 0)).setCell ⟨w.heap.size + 1 + 1, 1, none⟩ (.int .i64 0)) = w9 at TB9 e09 f09 f19 hb10 K4 ⊢
    have TB10 : ExBox w9.drew w.heap.size t (.slice A2 t.kids.length c2) := ⟨TB9.c0, TB9.c1, TB9.c2, TB9.c3, TB9.c4, TB9.c5, TB9.fr, TB9.lt⟩
    have e10 : w9.drew.cell? ⟨w.heap.size + 1, 0, none⟩ = some (.int .i64 (sk l q : Int)) := e09
    have f10 : w9.drew.cell? ⟨w.heap.size + 1 + 1, 0, none⟩ = some (.int .i64 0) := f09
    have f110 : w9.drew.cell? ⟨w.heap.size + 1 + 1, 1, none⟩ = some (.int .i64 0) := f19
    have K6 := K4.keep (D' := fun k => w.heap.size ≤ k) (w' := w9.drew) (fun _ _ _ => rfl) (fun _ h _ => h)
    generalize w9.drew = w11 at TB10 e10 f10 f110 hb10 K6 ⊢
    refine leaves_cons (f := 52) (args := #[.pointer (some ⟨w.heap.size, 0, none⟩), .pointer (some ⟨w.heap.size + 1, 0, none⟩), .pointer (some ⟨w.heap.size + 1 + 1, 0, none⟩)]) (by simp) (by simp [go_sem]) ?_
    refine (ecatch_idle w.heap.size (w.heap.size + 1) (w.heap.size + 1 + 1) w11).mono ?_
    rintro e u' w12 ⟨rfl, rfl, hw⟩
    rw [hw]
    obtain ⟨y0, y1, y2, y3, y4, y5, y6, y7⟩ := id TB10
    refine ⟨.tuple #[.agg #[.int .i64 t.kind, .string ⟨t.name.toArray⟩, .int .i64 t.vs, .int .i64 t.vn, .string ⟨t.vt.toArray⟩, (.slice A2 t.kids.length c2)], .int .i64 (sk l q : Int), .agg #[.int .i64 0, .int .i64 0]], by simp [results, Tryz.results19, go_sem, y0, y1, y2, y3, y4, y5, e10, f10, f110], hb10, _, rfl, exV_of K6⟩
   ·have hbe : (E != 0) = true := by rw [bne_iff_ne]; exact hE0
    have hres : exBegin l p (.ok t q) = (zeroEx, 0, 2, 0) := by unfold exBegin; rw [if_neg (by omega)]; simp only; rw [HE.out, if_neg hE0]
    have hq := hres.symm.trans HA.out
    simp only [Prod.mk.injEq] at hq
    obtain ⟨rfl, rfl, rfl, rfl⟩ := hq
    go_wp2_with fail
    obtain ⟨TB9, e09, f09, f19, hbl, hsm⟩ := elaid_facts w.heap.size (w.heap.size + 1) (w.heap.size + 1 + 1) w8 TB8 e08 f08 f18 (by omega) (by omega) (by omega) (by omega) (by omega) (by omega)  zeroEx (.slice none 0 0) 0 2 0
    have hb10 := hbl _ _ hb9 (Nat.le_refl _) (by omega) (by omega)
    simp only [zeroEx, Ex.kind, Ex.name, Ex.vs, Ex.vn, Ex.vt] at TB9 e09 f09 f19 hb10
    generalize (((((((((w8.setCell ⟨w.heap.size, 0, none⟩ (.int .i64 0)).setCell ⟨w.heap.size, 1, none⟩ (.string ⟨([] : Str).toArray⟩)).setCell ⟨w.heap.size, 2, none⟩ (.int .i64 0)).setCell ⟨w.heap.size, 3, none⟩ (.int .i64 0)).setCell ⟨w.heap.size, 4, none⟩ (.string ⟨([] : Str).toArray⟩)).setCell ⟨w.heap.size, 5, none⟩ (.slice none 0 0)).setCell ⟨w.heap.size + 1, 0, none⟩ (.int .i64 0)).setCell ⟨w.heap.size + 1 + 1, 0, none⟩ (.int .i64 2)).setCell ⟨w.heap.size + 1 + 1, 1, none⟩ (.int .i64 0)) = w9 at TB9 e09 f09 f19 hb10 ⊢
    refine leaves_cons (f := 52) (args := #[.pointer (some ⟨w.heap.size, 0, none⟩), .pointer (some ⟨w.heap.size + 1, 0, none⟩), .pointer (some ⟨w.heap.size + 1 + 1, 0, none⟩)]) (by simp) (by simp [go_sem]) ?_
    refine (ecatch_idle w.heap.size (w.heap.size + 1) (w.heap.size + 1 + 1) w9).mono ?_
    rintro e u' w10 ⟨rfl, rfl, hw⟩
    rw [hw]
    obtain ⟨y0, y1, y2, y3, y4, y5, y6, y7⟩ := id TB9
    simp only [Ex.kind, Ex.name, Ex.vs, Ex.vn, Ex.vt] at y0 y1 y2 y3 y4
    refine ⟨.tuple #[.agg #[.int .i64 0, .string ⟨#[]⟩, .int .i64 0, .int .i64 0, .string ⟨#[]⟩, .slice none 0 0], .int .i64 0, .agg #[.int .i64 2, .int .i64 0]], by simp [results, Tryz.results19, go_sem, y0, y1, y2, y3, y4, y5, e09, f09, f19], hb10, _, rfl, zero_ex _ _⟩
 ·have hd : (2000 : Int) < (l.length : Int) := by omega
  go_enter_defers Tryz.func19, Tryz.ntmps19
  go_wp2_with fail
  have hres : exBegin l p rr = (zeroEx, 0, 2, 0) := by unfold exBegin; rw [if_pos (by omega)]
  have hq := hres.symm.trans HA.out
  simp only [Prod.mk.injEq] at hq
  obtain ⟨rfl, rfl, rfl, rfl⟩ := hq
  refine ⟨.tuple #[.agg #[.int .i64 0, .string ⟨#[]⟩, .int .i64 0, .int .i64 0, .string ⟨#[]⟩, .slice none 0 0], .int .i64 0, .agg #[.int .i64 2, .int .i64 0]], by simp [results, Tryz.results19, go_sem], by go_grown, _, rfl, zero_ex _ _⟩
end Go.Proofs.YtpidjanngbaiiaaGreatDoor
