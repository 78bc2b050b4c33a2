/-
  The program's reader of expressions: literals.
-/
import Derived.Test.YtpidjanngbaiiaaGreatDoorM10
import Derived.Test.YtpidjanngbaiiaaGreatDoorM8
namespace Go.Proofs.YtpidjanngbaiiaaGreatDoor
open Go.RowKit Go.Proofs

set_option maxRecDepth 100000
structure Laid (w : World) : Prop where
 t : Tabs w
 e : ErrVars w
 p : PowTab w
theorem Laid.below {w w' : World} (h : Laid w) (hb : Below w.heap.size w w') : Laid w' := ⟨h.t.below hb, h.e.below hb, h.p.below hb⟩
def AnsE (w : World) (b : Nat) (l : Str) (r : Yd.Res Ex) (e : Ending) (w' : World) : Prop := w.grownBy w' (some b) ∧ match r with
 | .ok t q => ∃ v, e = .returned v ∧ ExV (fun k => w.heap.size ≤ k) w' v t ∧ RBox w' b l q
 | .err c q => e = .panicked (ethrown c q)
def litAns (p k : Nat) (v : VR) : Yd.Res Ex := if v.2.2.2 = 0 then .ok (.mk 1 [] v.1 v.2.1 v.2.2.1 []) k else .err v.2.2.2 p
theorem efinish {w w2 W : World} {b X : Nat} {l : Str} {q : Nat} {t0 : Ex} {kv0 : Value} (hb : b < w.heap.size) (hX : w.heap.size ≤ X) (hg : w.grownBy w2 (some b)) (hR : RBox w2 b l q) (XB : ExBox w2 X t0 kv0) (t : Ex) (kv : Value)
  (h2 : Exs (fun k => w.heap.size ≤ k ∧ k ≠ X) w2 kv t.kids)
  (hW : ((((((w2.setCell ⟨X, 0, none⟩ (.int .i64 t.kind)).setCell ⟨X, 1, none⟩ (.string ⟨t.name.toArray⟩)).setCell ⟨X, 2, none⟩ (.int .i64 t.vs)).setCell ⟨X, 3, none⟩ (.int .i64 t.vn)).setCell ⟨X, 4, none⟩ (.string ⟨t.vt.toArray⟩)).setCell ⟨X, 5, none⟩ kv) = W) :
  ExBox W X t kv ∧ w.grownBy W (some b) ∧ RBox W b l q ∧ ExV (fun k => w.heap.size ≤ k) W (.agg #[.int .i64 t.kind, .string ⟨t.name.toArray⟩, .int .i64 t.vs, .int .i64 t.vn, .string ⟨t.vt.toArray⟩, kv]) t := by
 subst hW
 have hne : X ≠ b := by omega
 exact ⟨XB.fill t kv, grown_in (grown_in (grown_in (grown_in (grown_in (grown_in hg hX _) hX _) hX _) hX _) hX _) hX _, (((((hR.far hne _).far hne _).far hne _).far hne _).far hne _).far hne _, exV_of (h2.keep (Same.fillEx (fun h => h.2 rfl) _ _ _ _ _ _) (fun _ h _ => h.1))⟩
set_option maxHeartbeats 4000000 in
theorem elit_true (l : Str) (b p : Nat) (w : World) (hl : l.length ≤ 2000) (hp : p ≤ l.length) (hR : RBox w b l p) (hL : Laid w) (z : Nat) (c34 : Hid (∀ W, Calls Tryz.prog 124 #[.string ⟨(l.drop p).toArray⟩, .string ⟨#[34]⟩] W fun e w' => e = .returned (.bool false) ∧ w' = W)) (ct : Hid (∀ W, Calls Tryz.prog 124 #[.string ⟨(l.drop p).toArray⟩, .string ⟨#[116, 114, 117, 101]⟩] W fun e w' => e = .returned (.bool true) ∧ w' = W)) (hn4 : p + 4 = z) (hpz : p ≤ z) (hz : z ≤ l.length) (V : VR) (hV : Hid (rdP ((l.drop p).take (z - p)) = V)) :
  Calls Tryz.prog 121 #[.pointer (some ⟨b, 0, none⟩)] w (AnsE w b l (litAns p z V)) := by
 have hbw := hR.lt
 go_enter Tryz.func121, Tryz.ntmps121
 go_wp2_with fail
 have XB := new_exbox w 52
 have hbW : Below w.heap.size w (w.alloc (.cells #[.int .i64 0, .string ⟨#[]⟩, .int .i64 0, .int .i64 0, .string ⟨#[]⟩, .slice none 0 0] 52)) := by go_grown
 have hR0 := hR.keep hbW
 have hg0 := grown_belowB (grown_refl w b) hbW
 have hL0 := hL.below hbW
 have hz0 : (w.alloc (.cells #[.int .i64 0, .string ⟨#[]⟩, .int .i64 0, .int .i64 0, .string ⟨#[]⟩, .slice none 0 0] 52)).heap.size = w.heap.size + 1 := by simp
 generalize w.alloc (.cells #[.int .i64 0, .string ⟨#[]⟩, .int .i64 0, .int .i64 0, .string ⟨#[]⟩, .slice none 0 0] 52) = w0 at XB hR0 hg0 hL0 hz0 ⊢
 clear hbW hR hL
 have hne1 : ¬ w.heap.size = b := by omega
 have hne2 : ¬ b = w.heap.size := by omega
 obtain ⟨r0, r1, r2, r3⟩ := id hR0
 go_quiet (fail)
 have XB1 := XB.drewN nq
 have hR1 := hR0.drewN nq
 have hg1 := grown_drewN hg0 nq
 have hL1 : Laid (w0.drewN nq) := ⟨hL0.t.drewN nq, ⟨hL0.e.s, hL0.e.r⟩, hL0.p⟩
 have hz1 : (w0.drewN nq).heap.size = w.heap.size + 1 := hz0
 generalize w0.drewN nq = w1 at XB1 hR1 hg1 hL1 hz1 ⊢
 clear r0 r1 r2 r3 XB hR0 hg0 hL0 hz0
 clear w0
 obtain ⟨r0, r1, r2, r3⟩ := id hR1
 have g1 : ¬ (l.length : Int) < (p : Int) := by omega
 have g2 : ¬ (p : Int) < 0 := by omega
 have g3 : 0 ≤ (p : Int) ∧ (p : Int) ≤ (l.length : Int) := by omega
 have g4 : (p : Int) ≤ (l.length : Int) := by omega
 have g5 : (l.length : Int) ≤ 2000 := by omega
 go_wp2_with fail
 refine (c34.out _).mono ?_
 rintro e w1 ⟨rfl, rfl⟩
 go_wp2_with fail
 refine (ct.out _).mono ?_
 rintro e w1 ⟨rfl, rfl⟩
 have e4 : (p : Int) + 4 = (z : Int) := by omega
 clear hn4
 go_wp2_with (rw [e4])
 have g6 : (z : Int) ≤ (l.length : Int) := by omega
 have g7 : (p : Int) ≤ (z : Int) := by omega
 go_wp2_with fail
 rw [ext_mid l p z]
 refine (read_any _ w1 (by simp only [List.length_take, List.length_drop]; omega) hL1.t hL1.e hL1.p).mono ?_
 rw [hV.out]
 obtain ⟨vs, vn, vt, ve⟩ := V
 rintro e w4 ⟨rfl, hb4⟩
 have XB4 := XB1.keep hb4 XB1.lt
 have hR4 := hR1.keep hb4
 have hg4 := grown_belowB hg1 hb4
 have hz4 : w.heap.size + 1 ≤ w4.heap.size := by rw [← hz1]; exact hb4.size
 clear r0 r1 r2 r3 XB1 hR1 hg1 hL1 hz1 hb4 c34 hV
 try clear w1
 obtain ⟨r0, r1, r2, r3⟩ := id hR4
 obtain ⟨x0, x1, x2, x3, x4, x5, x6, x7⟩ := id XB4
 have hne3 : ¬ b = w4.heap.size := by omega
 have hne4 : ¬ w4.heap.size = b := by omega
 have hne5 : ¬ w.heap.size = w4.heap.size := by omega
 have hne6 : ¬ w4.heap.size = w.heap.size := by omega
 by_cases hve : ve = 0
 ·subst hve
  rename_i K1 K2 h1 h2
  have H1 := Lib.hid h1
  clear h1
  go_wp2_with fail
  have hv0 : (w4.alloc (.cells #[.int .i64 vs, .int .i64 vn, .string ⟨vt.toArray⟩] 26)).cell? ⟨w4.heap.size, 0, none⟩ = some (.int .i64 vs) := by simp [go_sem]
  have hv1 : (w4.alloc (.cells #[.int .i64 vs, .int .i64 vn, .string ⟨vt.toArray⟩] 26)).cell? ⟨w4.heap.size, 1, none⟩ = some (.int .i64 vn) := by simp [go_sem]
  have hv2 : (w4.alloc (.cells #[.int .i64 vs, .int .i64 vn, .string ⟨vt.toArray⟩] 26)).cell? ⟨w4.heap.size, 2, none⟩ = some (.string ⟨vt.toArray⟩) := by simp [go_sem]
  have hb5 : Below w4.heap.size w4 (w4.alloc (.cells #[.int .i64 vs, .int .i64 vn, .string ⟨vt.toArray⟩] 26)) := by go_grown
  generalize w4.alloc (.cells #[.int .i64 vs, .int .i64 vn, .string ⟨vt.toArray⟩] 26) = w5 at hv0 hv1 hv2 hb5 ⊢
  have XB5 := XB4.keep hb5 XB4.lt
  have hR5 := hR4.keep hb5
  have hg5 := grown_belowB hg4 hb5
  clear r0 r1 r2 r3 x0 x1 x2 x3 x4 x5 x6 x7 XB4 hR4 hg4 hb5 hz4
  generalize w4.heap.size = X at hne3 hne4 hne5 hne6 hv0 hv1 hv2 ⊢
  clear w4
  obtain ⟨r0, r1, r2, r3⟩ := id hR5
  refine H1.out _ _ ?_
  clear H1
  go_step
  rename_i K3 h3
  have H3 := Lib.hid h3
  clear h3
  go_wp2_with fail
  refine H3.out _ _ ?_
  clear H3
  go_step
  rename_i K4 h4
  have H4 := Lib.hid h4
  clear h4
  go_wp2_with fail
  have hR6 := hR5.set z
  have hg6 := grown_trans hg5 (grown_at w5 b 1 (.int .i64 (z : Int)))
  have XB6 := XB5.far (p := ⟨b, 1, none⟩) hne2 (.int .i64 (z : Int))
  replace hv0 := (World.cell?_setCell_far w5 ⟨b, 1, none⟩ ⟨X, 0, none⟩ (.int .i64 (z : Int)) hne3).trans hv0
  replace hv1 := (World.cell?_setCell_far w5 ⟨b, 1, none⟩ ⟨X, 1, none⟩ (.int .i64 (z : Int)) hne3).trans hv1
  replace hv2 := (World.cell?_setCell_far w5 ⟨b, 1, none⟩ ⟨X, 2, none⟩ (.int .i64 (z : Int)) hne3).trans hv2
  generalize w5.setCell ⟨b, 1, none⟩ (.int .i64 (z : Int)) = w6 at hR6 hg6 XB6 hv0 hv1 hv2 ⊢
  clear r0 r1 r2 r3 XB5 hR5 hg5
  clear w5
  obtain ⟨x0, x1, x2, x3, x4, x5, x6, x7⟩ := id XB6
  refine H4.out _ _ ?_
  clear H4
  go_step
  rename_i K5 h5
  have H5 := Lib.hid h5
  clear h5
  go_wp2_with fail
  obtain ⟨W, hW⟩ : ∃ W, ((((((w6.setCell ⟨w.heap.size, 0, none⟩ (.int .i64 1)).setCell ⟨w.heap.size, 1, none⟩ (.string ⟨#[]⟩)).setCell ⟨w.heap.size, 2, none⟩ (.int .i64 vs)).setCell ⟨w.heap.size, 3, none⟩ (.int .i64 vn)).setCell ⟨w.heap.size, 4, none⟩ (.string ⟨vt.toArray⟩)).setCell ⟨w.heap.size, 5, none⟩ (.slice none 0 0)) = W := ⟨_, rfl⟩
  rw [hW]
  obtain ⟨hF, hgF, hRF, hT⟩ := efinish hbw (Nat.le_refl _) hg6 hR6 XB6 (.mk 1 [] vs vn vt []) (.slice none 0 0) (no_exs _ _) hW
  clear hW x0 x1 x2 x3 x4 x5 x6 x7
  obtain ⟨d0, d1, d2, d3, d4, d5, d6, d7⟩ := hF
  refine H5.out _ _ ?_
  clear H5
  go_step
  refine bodyPost_ret (v := .agg #[.int .i64 1, .string ⟨([] : Str).toArray⟩, .int .i64 vs, .int .i64 vn, .string ⟨vt.toArray⟩, .slice none 0 0]) (by simp [results, Tryz.results121, go_sem, d0, d1, d2, d3, d4, d5, Ex.kind, Ex.name, Ex.vs, Ex.vn, Ex.vt]) rfl ?_
  unfold litAns
  rw [if_pos rfl]
  exact ⟨hgF, _, rfl, hT, hRF⟩
 ·have hve' : (ve != 0) = true := by rw [bne_iff_ne]; exact hve
  go_wp2_with fail
  have hb5 : Below w4.heap.size w4 (w4.alloc (.cells #[.int .i64 vs, .int .i64 vn, .string ⟨vt.toArray⟩] 26)) := by go_grown
  refine (efail_any ve l b p _ (hR4.keep hb5)).mono ?_
  rintro e w6 ⟨rfl, hg6⟩
  refine ⟨rfl, ?_⟩
  unfold litAns
  rw [if_neg hve]
  exact ⟨grown_trans (grown_belowB hg4 hb5) hg6, rfl⟩
set_option maxHeartbeats 4000000 in
theorem elit_false (l : Str) (b p : Nat) (w : World) (hl : l.length ≤ 2000) (hp : p ≤ l.length) (hR : RBox w b l p) (hL : Laid w) (z : Nat) (c34 : Hid (∀ W, Calls Tryz.prog 124 #[.string ⟨(l.drop p).toArray⟩, .string ⟨#[34]⟩] W fun e w' => e = .returned (.bool false) ∧ w' = W)) (ct : Hid (∀ W, Calls Tryz.prog 124 #[.string ⟨(l.drop p).toArray⟩, .string ⟨#[116, 114, 117, 101]⟩] W fun e w' => e = .returned (.bool false) ∧ w' = W)) (cf : Hid (∀ W, Calls Tryz.prog 124 #[.string ⟨(l.drop p).toArray⟩, .string ⟨#[102, 97, 108, 115, 101]⟩] W fun e w' => e = .returned (.bool true) ∧ w' = W)) (hn4 : p + 5 = z) (hpz : p ≤ z) (hz : z ≤ l.length) (V : VR) (hV : Hid (rdP ((l.drop p).take (z - p)) = V)) :
  Calls Tryz.prog 121 #[.pointer (some ⟨b, 0, none⟩)] w (AnsE w b l (litAns p z V)) := by
 have hbw := hR.lt
 go_enter Tryz.func121, Tryz.ntmps121
 go_wp2_with fail
 have XB := new_exbox w 52
 have hbW : Below w.heap.size w (w.alloc (.cells #[.int .i64 0, .string ⟨#[]⟩, .int .i64 0, .int .i64 0, .string ⟨#[]⟩, .slice none 0 0] 52)) := by go_grown
 have hR0 := hR.keep hbW
 have hg0 := grown_belowB (grown_refl w b) hbW
 have hL0 := hL.below hbW
 have hz0 : (w.alloc (.cells #[.int .i64 0, .string ⟨#[]⟩, .int .i64 0, .int .i64 0, .string ⟨#[]⟩, .slice none 0 0] 52)).heap.size = w.heap.size + 1 := by simp
 generalize w.alloc (.cells #[.int .i64 0, .string ⟨#[]⟩, .int .i64 0, .int .i64 0, .string ⟨#[]⟩, .slice none 0 0] 52) = w0 at XB hR0 hg0 hL0 hz0 ⊢
 clear hbW hR hL
 have hne1 : ¬ w.heap.size = b := by omega
 have hne2 : ¬ b = w.heap.size := by omega
 obtain ⟨r0, r1, r2, r3⟩ := id hR0
 go_quiet (fail)
 have XB1 := XB.drewN nq
 have hR1 := hR0.drewN nq
 have hg1 := grown_drewN hg0 nq
 have hL1 : Laid (w0.drewN nq) := ⟨hL0.t.drewN nq, ⟨hL0.e.s, hL0.e.r⟩, hL0.p⟩
 have hz1 : (w0.drewN nq).heap.size = w.heap.size + 1 := hz0
 generalize w0.drewN nq = w1 at XB1 hR1 hg1 hL1 hz1 ⊢
 clear r0 r1 r2 r3 XB hR0 hg0 hL0 hz0
 clear w0
 obtain ⟨r0, r1, r2, r3⟩ := id hR1
 have g1 : ¬ (l.length : Int) < (p : Int) := by omega
 have g2 : ¬ (p : Int) < 0 := by omega
 have g3 : 0 ≤ (p : Int) ∧ (p : Int) ≤ (l.length : Int) := by omega
 have g4 : (p : Int) ≤ (l.length : Int) := by omega
 have g5 : (l.length : Int) ≤ 2000 := by omega
 go_wp2_with fail
 refine (c34.out _).mono ?_
 rintro e w1 ⟨rfl, rfl⟩
 go_wp2_with fail
 refine (ct.out _).mono ?_
 rintro e w1 ⟨rfl, rfl⟩
 go_wp2_with fail
 refine (cf.out _).mono ?_
 rintro e w1 ⟨rfl, rfl⟩
 have e4 : (p : Int) + 5 = (z : Int) := by omega
 clear hn4
 go_wp2_with (rw [e4])
 have g6 : (z : Int) ≤ (l.length : Int) := by omega
 have g7 : (p : Int) ≤ (z : Int) := by omega
 go_wp2_with fail
 rw [ext_mid l p z]
 refine (read_any _ w1 (by simp only [List.length_take, List.length_drop]; omega) hL1.t hL1.e hL1.p).mono ?_
 rw [hV.out]
 obtain ⟨vs, vn, vt, ve⟩ := V
 rintro e w4 ⟨rfl, hb4⟩
 have XB4 := XB1.keep hb4 XB1.lt
 have hR4 := hR1.keep hb4
 have hg4 := grown_belowB hg1 hb4
 have hz4 : w.heap.size + 1 ≤ w4.heap.size := by rw [← hz1]; exact hb4.size
 clear r0 r1 r2 r3 XB1 hR1 hg1 hL1 hz1 hb4 c34 hV
 try clear w1
 obtain ⟨r0, r1, r2, r3⟩ := id hR4
 obtain ⟨x0, x1, x2, x3, x4, x5, x6, x7⟩ := id XB4
 have hne3 : ¬ b = w4.heap.size := by omega
 have hne4 : ¬ w4.heap.size = b := by omega
 have hne5 : ¬ w.heap.size = w4.heap.size := by omega
 have hne6 : ¬ w4.heap.size = w.heap.size := by omega
 by_cases hve : ve = 0
 ·subst hve
  rename_i K1 K2 h1 h2
  have H1 := Lib.hid h1
  clear h1
  go_wp2_with fail
  have hv0 : (w4.alloc (.cells #[.int .i64 vs, .int .i64 vn, .string ⟨vt.toArray⟩] 26)).cell? ⟨w4.heap.size, 0, none⟩ = some (.int .i64 vs) := by simp [go_sem]
  have hv1 : (w4.alloc (.cells #[.int .i64 vs, .int .i64 vn, .string ⟨vt.toArray⟩] 26)).cell? ⟨w4.heap.size, 1, none⟩ = some (.int .i64 vn) := by simp [go_sem]
  have hv2 : (w4.alloc (.cells #[.int .i64 vs, .int .i64 vn, .string ⟨vt.toArray⟩] 26)).cell? ⟨w4.heap.size, 2, none⟩ = some (.string ⟨vt.toArray⟩) := by simp [go_sem]
  have hb5 : Below w4.heap.size w4 (w4.alloc (.cells #[.int .i64 vs, .int .i64 vn, .string ⟨vt.toArray⟩] 26)) := by go_grown
  generalize w4.alloc (.cells #[.int .i64 vs, .int .i64 vn, .string ⟨vt.toArray⟩] 26) = w5 at hv0 hv1 hv2 hb5 ⊢
  have XB5 := XB4.keep hb5 XB4.lt
  have hR5 := hR4.keep hb5
  have hg5 := grown_belowB hg4 hb5
  clear r0 r1 r2 r3 x0 x1 x2 x3 x4 x5 x6 x7 XB4 hR4 hg4 hb5 hz4
  generalize w4.heap.size = X at hne3 hne4 hne5 hne6 hv0 hv1 hv2 ⊢
  clear w4
  obtain ⟨r0, r1, r2, r3⟩ := id hR5
  refine H1.out _ _ ?_
  clear H1
  go_step
  rename_i K3 h3
  have H3 := Lib.hid h3
  clear h3
  go_wp2_with fail
  refine H3.out _ _ ?_
  clear H3
  go_step
  rename_i K4 h4
  have H4 := Lib.hid h4
  clear h4
  go_wp2_with fail
  have hR6 := hR5.set z
  have hg6 := grown_trans hg5 (grown_at w5 b 1 (.int .i64 (z : Int)))
  have XB6 := XB5.far (p := ⟨b, 1, none⟩) hne2 (.int .i64 (z : Int))
  replace hv0 := (World.cell?_setCell_far w5 ⟨b, 1, none⟩ ⟨X, 0, none⟩ (.int .i64 (z : Int)) hne3).trans hv0
  replace hv1 := (World.cell?_setCell_far w5 ⟨b, 1, none⟩ ⟨X, 1, none⟩ (.int .i64 (z : Int)) hne3).trans hv1
  replace hv2 := (World.cell?_setCell_far w5 ⟨b, 1, none⟩ ⟨X, 2, none⟩ (.int .i64 (z : Int)) hne3).trans hv2
  generalize w5.setCell ⟨b, 1, none⟩ (.int .i64 (z : Int)) = w6 at hR6 hg6 XB6 hv0 hv1 hv2 ⊢
  clear r0 r1 r2 r3 XB5 hR5 hg5
  clear w5
  obtain ⟨x0, x1, x2, x3, x4, x5, x6, x7⟩ := id XB6
  refine H4.out _ _ ?_
  clear H4
  go_step
  rename_i K5 h5
  have H5 := Lib.hid h5
  clear h5
  go_wp2_with fail
  obtain ⟨W, hW⟩ : ∃ W, ((((((w6.setCell ⟨w.heap.size, 0, none⟩ (.int .i64 1)).setCell ⟨w.heap.size, 1, none⟩ (.string ⟨#[]⟩)).setCell ⟨w.heap.size, 2, none⟩ (.int .i64 vs)).setCell ⟨w.heap.size, 3, none⟩ (.int .i64 vn)).setCell ⟨w.heap.size, 4, none⟩ (.string ⟨vt.toArray⟩)).setCell ⟨w.heap.size, 5, none⟩ (.slice none 0 0)) = W := ⟨_, rfl⟩
  rw [hW]
  obtain ⟨hF, hgF, hRF, hT⟩ := efinish hbw (Nat.le_refl _) hg6 hR6 XB6 (.mk 1 [] vs vn vt []) (.slice none 0 0) (no_exs _ _) hW
  clear hW x0 x1 x2 x3 x4 x5 x6 x7
  obtain ⟨d0, d1, d2, d3, d4, d5, d6, d7⟩ := hF
  refine H5.out _ _ ?_
  clear H5
  go_step
  refine bodyPost_ret (v := .agg #[.int .i64 1, .string ⟨([] : Str).toArray⟩, .int .i64 vs, .int .i64 vn, .string ⟨vt.toArray⟩, .slice none 0 0]) (by simp [results, Tryz.results121, go_sem, d0, d1, d2, d3, d4, d5, Ex.kind, Ex.name, Ex.vs, Ex.vn, Ex.vt]) rfl ?_
  unfold litAns
  rw [if_pos rfl]
  exact ⟨hgF, _, rfl, hT, hRF⟩
 ·have hve' : (ve != 0) = true := by rw [bne_iff_ne]; exact hve
  go_wp2_with fail
  have hb5 : Below w4.heap.size w4 (w4.alloc (.cells #[.int .i64 vs, .int .i64 vn, .string ⟨vt.toArray⟩] 26)) := by go_grown
  refine (efail_any ve l b p _ (hR4.keep hb5)).mono ?_
  rintro e w6 ⟨rfl, hg6⟩
  refine ⟨rfl, ?_⟩
  unfold litAns
  rw [if_neg hve]
  exact ⟨grown_trans (grown_belowB hg4 hb5) hg6, rfl⟩
set_option maxHeartbeats 4000000 in
theorem elit_num (l : Str) (b p : Nat) (w : World) (hl : l.length ≤ 2000) (hp : p ≤ l.length) (hR : RBox w b l p) (hL : Laid w) (z : Nat) (c34 : Hid (∀ W, Calls Tryz.prog 124 #[.string ⟨(l.drop p).toArray⟩, .string ⟨#[34]⟩] W fun e w' => e = .returned (.bool false) ∧ w' = W)) (ct : Hid (∀ W, Calls Tryz.prog 124 #[.string ⟨(l.drop p).toArray⟩, .string ⟨#[116, 114, 117, 101]⟩] W fun e w' => e = .returned (.bool false) ∧ w' = W)) (cf : Hid (∀ W, Calls Tryz.prog 124 #[.string ⟨(l.drop p).toArray⟩, .string ⟨#[102, 97, 108, 115, 101]⟩] W fun e w' => e = .returned (.bool false) ∧ w' = W)) (cm : Hid (∀ W, Calls Tryz.prog 124 #[.string ⟨(l.drop p).toArray⟩, .string ⟨#[45]⟩] W fun e w' => e = .returned (.bool false) ∧ w' = W)) (hf : Hid (p + ((l.drop p).takeWhile figb).length = z)) (hpz : p ≤ z) (hz : z ≤ l.length) (V : VR) (hV : Hid (rdP ((l.drop p).take (z - p)) = V)) :
  Calls Tryz.prog 121 #[.pointer (some ⟨b, 0, none⟩)] w (AnsE w b l (litAns p z V)) := by
 have hbw := hR.lt
 go_enter Tryz.func121, Tryz.ntmps121
 go_wp2_with fail
 have XB := new_exbox w 52
 have hbW : Below w.heap.size w (w.alloc (.cells #[.int .i64 0, .string ⟨#[]⟩, .int .i64 0, .int .i64 0, .string ⟨#[]⟩, .slice none 0 0] 52)) := by go_grown
 have hR0 := hR.keep hbW
 have hg0 := grown_belowB (grown_refl w b) hbW
 have hL0 := hL.below hbW
 have hz0 : (w.alloc (.cells #[.int .i64 0, .string ⟨#[]⟩, .int .i64 0, .int .i64 0, .string ⟨#[]⟩, .slice none 0 0] 52)).heap.size = w.heap.size + 1 := by simp
 generalize w.alloc (.cells #[.int .i64 0, .string ⟨#[]⟩, .int .i64 0, .int .i64 0, .string ⟨#[]⟩, .slice none 0 0] 52) = w0 at XB hR0 hg0 hL0 hz0 ⊢
 clear hbW hR hL
 have hne1 : ¬ w.heap.size = b := by omega
 have hne2 : ¬ b = w.heap.size := by omega
 obtain ⟨r0, r1, r2, r3⟩ := id hR0
 go_quiet (fail)
 have XB1 := XB.drewN nq
 have hR1 := hR0.drewN nq
 have hg1 := grown_drewN hg0 nq
 have hL1 : Laid (w0.drewN nq) := ⟨hL0.t.drewN nq, ⟨hL0.e.s, hL0.e.r⟩, hL0.p⟩
 have hz1 : (w0.drewN nq).heap.size = w.heap.size + 1 := hz0
 generalize w0.drewN nq = w1 at XB1 hR1 hg1 hL1 hz1 ⊢
 clear r0 r1 r2 r3 XB hR0 hg0 hL0 hz0
 clear w0
 obtain ⟨r0, r1, r2, r3⟩ := id hR1
 have g1 : ¬ (l.length : Int) < (p : Int) := by omega
 have g2 : ¬ (p : Int) < 0 := by omega
 have g3 : 0 ≤ (p : Int) ∧ (p : Int) ≤ (l.length : Int) := by omega
 have g4 : (p : Int) ≤ (l.length : Int) := by omega
 have g5 : (l.length : Int) ≤ 2000 := by omega
 go_wp2_with fail
 refine (c34.out _).mono ?_
 rintro e w1 ⟨rfl, rfl⟩
 go_wp2_with fail
 refine (ct.out _).mono ?_
 rintro e w1 ⟨rfl, rfl⟩
 go_wp2_with fail
 refine (cf.out _).mono ?_
 rintro e w1 ⟨rfl, rfl⟩
 go_wp2_with fail
 refine (cm.out _).mono ?_
 rintro e w1 ⟨rfl, rfl⟩
 go_wp2_with fail
 go_loop [4] (fun i => ∃ k : Nat, p ≤ k ∧ k ≤ l.length ∧ i = .int .i64 k ∧ Hid (k + ((l.drop k).takeWhile figb).length = z)) (fun i => l.length - (intOf i).toNat)
 case atStart => exact ⟨p, Nat.le_refl _, hp, rfl, hf⟩
 case round =>
  obtain ⟨k, hpk, hk, rfl, hf⟩ := hrel
  by_cases hlt : k < l.length
  ·obtain ⟨x, hx⟩ : ∃ x, l[k]? = some x := ⟨_, List.getElem?_eq_getElem hlt⟩
   have E : (⟨l.toArray⟩ : ByteArray)[k]'(by simpa [ByteArray.size] using hlt) = x := byte_at' hx _
   have hlt' : (k : Int) < (l.length : Int) := by omega
   have hf' := hf.out
   rw [drop_at hx, List.takeWhile_cons] at hf'
   cases hfx : figb x with
   | true =>
    rw [hfx, if_pos rfl, List.length_cons] at hf'
    have hF : Hid ((k + 1) + ((l.drop (k + 1)).takeWhile figb).length = z) := Lib.hid (by omega)
    have hd := Lib.hid (fun W => digit_any x W)
    rw [hfx] at hd
    clear hf hf' hfx hx
    go_wp2_with fail
    refine (hd.out _).mono ?_
    rintro e w1 ⟨rfl, rfl⟩
    go_wp2_with fail
    go_round
    case rel => exact ⟨k + 1, by omega, by omega, by go_num, hF⟩
    case measure => simp [intOf]; omega
   | false =>
    rw [hfx, if_neg (by simp)] at hf'
    simp only [List.length_nil, Nat.add_zero] at hf'
    have hd := Lib.hid (fun W => digit_any x W)
    rw [hfx] at hd
    clear hf hfx hx hpk
    obtain rfl := hf'.symm
    go_wp2_with fail
    refine (hd.out _).mono ?_
    rintro e w1 ⟨rfl, rfl⟩
    have g6 : (z : Int) ≤ (l.length : Int) := by omega
    have g7 : (p : Int) ≤ (z : Int) := by omega
    go_wp2_with fail
    rw [ext_mid l p z]
    refine (read_any _ w1 (by simp only [List.length_take, List.length_drop]; omega) hL1.t hL1.e hL1.p).mono ?_
    rw [hV.out]
    obtain ⟨vs, vn, vt, ve⟩ := V
    rintro e w4 ⟨rfl, hb4⟩
    have XB4 := XB1.keep hb4 XB1.lt
    have hR4 := hR1.keep hb4
    have hg4 := grown_belowB hg1 hb4
    have hz4 : w.heap.size + 1 ≤ w4.heap.size := by rw [← hz1]; exact hb4.size
    clear r0 r1 r2 r3 XB1 hR1 hg1 hL1 hz1 hb4 c34 hV
    try clear w1
    obtain ⟨r0, r1, r2, r3⟩ := id hR4
    obtain ⟨x0, x1, x2, x3, x4, x5, x6, x7⟩ := id XB4
    have hne3 : ¬ b = w4.heap.size := by omega
    have hne4 : ¬ w4.heap.size = b := by omega
    have hne5 : ¬ w.heap.size = w4.heap.size := by omega
    have hne6 : ¬ w4.heap.size = w.heap.size := by omega
    by_cases hve : ve = 0
    ·subst hve
     rename_i K1 K2 h1 h2
     have H1 := Lib.hid h1
     clear h1
     go_wp2_with fail
     have hv0 : (w4.alloc (.cells #[.int .i64 vs, .int .i64 vn, .string ⟨vt.toArray⟩] 26)).cell? ⟨w4.heap.size, 0, none⟩ = some (.int .i64 vs) := by simp [go_sem]
     have hv1 : (w4.alloc (.cells #[.int .i64 vs, .int .i64 vn, .string ⟨vt.toArray⟩] 26)).cell? ⟨w4.heap.size, 1, none⟩ = some (.int .i64 vn) := by simp [go_sem]
     have hv2 : (w4.alloc (.cells #[.int .i64 vs, .int .i64 vn, .string ⟨vt.toArray⟩] 26)).cell? ⟨w4.heap.size, 2, none⟩ = some (.string ⟨vt.toArray⟩) := by simp [go_sem]
     have hb5 : Below w4.heap.size w4 (w4.alloc (.cells #[.int .i64 vs, .int .i64 vn, .string ⟨vt.toArray⟩] 26)) := by go_grown
     generalize w4.alloc (.cells #[.int .i64 vs, .int .i64 vn, .string ⟨vt.toArray⟩] 26) = w5 at hv0 hv1 hv2 hb5 ⊢
     have XB5 := XB4.keep hb5 XB4.lt
     have hR5 := hR4.keep hb5
     have hg5 := grown_belowB hg4 hb5
     clear r0 r1 r2 r3 x0 x1 x2 x3 x4 x5 x6 x7 XB4 hR4 hg4 hb5 hz4
     generalize w4.heap.size = X at hne3 hne4 hne5 hne6 hv0 hv1 hv2 ⊢
     clear w4
     obtain ⟨r0, r1, r2, r3⟩ := id hR5
     refine H1.out _ _ ?_
     clear H1
     go_step
     rename_i K3 h3
     have H3 := Lib.hid h3
     clear h3
     go_wp2_with fail
     refine H3.out _ _ ?_
     clear H3
     go_step
     rename_i K4 h4
     have H4 := Lib.hid h4
     clear h4
     go_wp2_with fail
     have hR6 := hR5.set z
     have hg6 := grown_trans hg5 (grown_at w5 b 1 (.int .i64 (z : Int)))
     have XB6 := XB5.far (p := ⟨b, 1, none⟩) hne2 (.int .i64 (z : Int))
     replace hv0 := (World.cell?_setCell_far w5 ⟨b, 1, none⟩ ⟨X, 0, none⟩ (.int .i64 (z : Int)) hne3).trans hv0
     replace hv1 := (World.cell?_setCell_far w5 ⟨b, 1, none⟩ ⟨X, 1, none⟩ (.int .i64 (z : Int)) hne3).trans hv1
     replace hv2 := (World.cell?_setCell_far w5 ⟨b, 1, none⟩ ⟨X, 2, none⟩ (.int .i64 (z : Int)) hne3).trans hv2
     generalize w5.setCell ⟨b, 1, none⟩ (.int .i64 (z : Int)) = w6 at hR6 hg6 XB6 hv0 hv1 hv2 ⊢
     clear r0 r1 r2 r3 XB5 hR5 hg5
     clear w5
     obtain ⟨x0, x1, x2, x3, x4, x5, x6, x7⟩ := id XB6
     refine H4.out _ _ ?_
     clear H4
     go_step
     rename_i K5 h5
     have H5 := Lib.hid h5
     clear h5
     go_wp2_with fail
     obtain ⟨W, hW⟩ : ∃ W, ((((((w6.setCell ⟨w.heap.size, 0, none⟩ (.int .i64 1)).setCell ⟨w.heap.size, 1, none⟩ (.string ⟨#[]⟩)).setCell ⟨w.heap.size, 2, none⟩ (.int .i64 vs)).setCell ⟨w.heap.size, 3, none⟩ (.int .i64 vn)).setCell ⟨w.heap.size, 4, none⟩ (.string ⟨vt.toArray⟩)).setCell ⟨w.heap.size, 5, none⟩ (.slice none 0 0)) = W := ⟨_, rfl⟩
     rw [hW]
     obtain ⟨hF, hgF, hRF, hT⟩ := efinish hbw (Nat.le_refl _) hg6 hR6 XB6 (.mk 1 [] vs vn vt []) (.slice none 0 0) (no_exs _ _) hW
     clear hW x0 x1 x2 x3 x4 x5 x6 x7
     obtain ⟨d0, d1, d2, d3, d4, d5, d6, d7⟩ := hF
     refine H5.out _ _ ?_
     clear H5
     go_step
     refine bodyPost_ret (v := .agg #[.int .i64 1, .string ⟨([] : Str).toArray⟩, .int .i64 vs, .int .i64 vn, .string ⟨vt.toArray⟩, .slice none 0 0]) (by simp [results, Tryz.results121, go_sem, d0, d1, d2, d3, d4, d5, Ex.kind, Ex.name, Ex.vs, Ex.vn, Ex.vt]) rfl ?_
     unfold litAns
     rw [if_pos rfl]
     exact ⟨hgF, _, rfl, hT, hRF⟩
    ·have hve' : (ve != 0) = true := by rw [bne_iff_ne]; exact hve
     go_wp2_with fail
     have hb5 : Below w4.heap.size w4 (w4.alloc (.cells #[.int .i64 vs, .int .i64 vn, .string ⟨vt.toArray⟩] 26)) := by go_grown
     refine (efail_any ve l b p _ (hR4.keep hb5)).mono ?_
     rintro e w6 ⟨rfl, hg6⟩
     refine ⟨rfl, ?_⟩
     unfold litAns
     rw [if_neg hve]
     exact ⟨grown_trans (grown_belowB hg4 hb5) hg6, rfl⟩
  ·have hf' := hf.out
   rw [List.drop_eq_nil_of_le (by omega)] at hf'
   simp only [List.takeWhile_nil, List.length_nil, Nat.add_zero] at hf'
   obtain rfl := hf'.symm
   have hlt' : decide ((z : Int) < (l.length : Int)) = false := by simp; omega
   clear hf hpk
   have g6 : (z : Int) ≤ (l.length : Int) := by omega
   have g7 : (p : Int) ≤ (z : Int) := by omega
   go_wp2_with fail
   rw [ext_mid l p z]
   refine (read_any _ w1 (by simp only [List.length_take, List.length_drop]; omega) hL1.t hL1.e hL1.p).mono ?_
   rw [hV.out]
   obtain ⟨vs, vn, vt, ve⟩ := V
   rintro e w4 ⟨rfl, hb4⟩
   have XB4 := XB1.keep hb4 XB1.lt
   have hR4 := hR1.keep hb4
   have hg4 := grown_belowB hg1 hb4
   have hz4 : w.heap.size + 1 ≤ w4.heap.size := by rw [← hz1]; exact hb4.size
   clear r0 r1 r2 r3 XB1 hR1 hg1 hL1 hz1 hb4 c34 hV
   try clear w1
   obtain ⟨r0, r1, r2, r3⟩ := id hR4
   obtain ⟨x0, x1, x2, x3, x4, x5, x6, x7⟩ := id XB4
   have hne3 : ¬ b = w4.heap.size := by omega
   have hne4 : ¬ w4.heap.size = b := by omega
   have hne5 : ¬ w.heap.size = w4.heap.size := by omega
   have hne6 : ¬ w4.heap.size = w.heap.size := by omega
   by_cases hve : ve = 0
   ·subst hve
    rename_i K1 K2 h1 h2
    have H1 := Lib.hid h1
    clear h1
    go_wp2_with fail
    have hv0 : (w4.alloc (.cells #[.int .i64 vs, .int .i64 vn, .string ⟨vt.toArray⟩] 26)).cell? ⟨w4.heap.size, 0, none⟩ = some (.int .i64 vs) := by simp [go_sem]
    have hv1 : (w4.alloc (.cells #[.int .i64 vs, .int .i64 vn, .string ⟨vt.toArray⟩] 26)).cell? ⟨w4.heap.size, 1, none⟩ = some (.int .i64 vn) := by simp [go_sem]
    have hv2 : (w4.alloc (.cells #[.int .i64 vs, .int .i64 vn, .string ⟨vt.toArray⟩] 26)).cell? ⟨w4.heap.size, 2, none⟩ = some (.string ⟨vt.toArray⟩) := by simp [go_sem]
    have hb5 : Below w4.heap.size w4 (w4.alloc (.cells #[.int .i64 vs, .int .i64 vn, .string ⟨vt.toArray⟩] 26)) := by go_grown
    generalize w4.alloc (.cells #[.int .i64 vs, .int .i64 vn, .string ⟨vt.toArray⟩] 26) = w5 at hv0 hv1 hv2 hb5 ⊢
    have XB5 := XB4.keep hb5 XB4.lt
    have hR5 := hR4.keep hb5
    have hg5 := grown_belowB hg4 hb5
    clear r0 r1 r2 r3 x0 x1 x2 x3 x4 x5 x6 x7 XB4 hR4 hg4 hb5 hz4
    generalize w4.heap.size = X at hne3 hne4 hne5 hne6 hv0 hv1 hv2 ⊢
    clear w4
    obtain ⟨r0, r1, r2, r3⟩ := id hR5
    refine H1.out _ _ ?_
    clear H1
    go_step
    rename_i K3 h3
    have H3 := Lib.hid h3
    clear h3
    go_wp2_with fail
    refine H3.out _ _ ?_
    clear H3
    go_step
    rename_i K4 h4
    have H4 := Lib.hid h4
    clear h4
    go_wp2_with fail
    have hR6 := hR5.set z
    have hg6 := grown_trans hg5 (grown_at w5 b 1 (.int .i64 (z : Int)))
    have XB6 := XB5.far (p := ⟨b, 1, none⟩) hne2 (.int .i64 (z : Int))
    replace hv0 := (World.cell?_setCell_far w5 ⟨b, 1, none⟩ ⟨X, 0, none⟩ (.int .i64 (z : Int)) hne3).trans hv0
    replace hv1 := (World.cell?_setCell_far w5 ⟨b, 1, none⟩ ⟨X, 1, none⟩ (.int .i64 (z : Int)) hne3).trans hv1
    replace hv2 := (World.cell?_setCell_far w5 ⟨b, 1, none⟩ ⟨X, 2, none⟩ (.int .i64 (z : Int)) hne3).trans hv2
    generalize w5.setCell ⟨b, 1, none⟩ (.int .i64 (z : Int)) = w6 at hR6 hg6 XB6 hv0 hv1 hv2 ⊢
    clear r0 r1 r2 r3 XB5 hR5 hg5
    clear w5
    obtain ⟨x0, x1, x2, x3, x4, x5, x6, x7⟩ := id XB6
    refine H4.out _ _ ?_
    clear H4
    go_step
    rename_i K5 h5
    have H5 := Lib.hid h5
    clear h5
    go_wp2_with fail
    obtain ⟨W, hW⟩ : ∃ W, ((((((w6.setCell ⟨w.heap.size, 0, none⟩ (.int .i64 1)).setCell ⟨w.heap.size, 1, none⟩ (.string ⟨#[]⟩)).setCell ⟨w.heap.size, 2, none⟩ (.int .i64 vs)).setCell ⟨w.heap.size, 3, none⟩ (.int .i64 vn)).setCell ⟨w.heap.size, 4, none⟩ (.string ⟨vt.toArray⟩)).setCell ⟨w.heap.size, 5, none⟩ (.slice none 0 0)) = W := ⟨_, rfl⟩
    rw [hW]
    obtain ⟨hF, hgF, hRF, hT⟩ := efinish hbw (Nat.le_refl _) hg6 hR6 XB6 (.mk 1 [] vs vn vt []) (.slice none 0 0) (no_exs _ _) hW
    clear hW x0 x1 x2 x3 x4 x5 x6 x7
    obtain ⟨d0, d1, d2, d3, d4, d5, d6, d7⟩ := hF
    refine H5.out _ _ ?_
    clear H5
    go_step
    refine bodyPost_ret (v := .agg #[.int .i64 1, .string ⟨([] : Str).toArray⟩, .int .i64 vs, .int .i64 vn, .string ⟨vt.toArray⟩, .slice none 0 0]) (by simp [results, Tryz.results121, go_sem, d0, d1, d2, d3, d4, d5, Ex.kind, Ex.name, Ex.vs, Ex.vn, Ex.vt]) rfl ?_
    unfold litAns
    rw [if_pos rfl]
    exact ⟨hgF, _, rfl, hT, hRF⟩
   ·have hve' : (ve != 0) = true := by rw [bne_iff_ne]; exact hve
    go_wp2_with fail
    have hb5 : Below w4.heap.size w4 (w4.alloc (.cells #[.int .i64 vs, .int .i64 vn, .string ⟨vt.toArray⟩] 26)) := by go_grown
    refine (efail_any ve l b p _ (hR4.keep hb5)).mono ?_
    rintro e w6 ⟨rfl, hg6⟩
    refine ⟨rfl, ?_⟩
    unfold litAns
    rw [if_neg hve]
    exact ⟨grown_trans (grown_belowB hg4 hb5) hg6, rfl⟩
set_option maxHeartbeats 4000000 in
theorem elit_minus (l : Str) (b p : Nat) (w : World) (hl : l.length ≤ 2000) (hp : p ≤ l.length) (hR : RBox w b l p) (hL : Laid w) (z : Nat) (c34 : Hid (∀ W, Calls Tryz.prog 124 #[.string ⟨(l.drop p).toArray⟩, .string ⟨#[34]⟩] W fun e w' => e = .returned (.bool false) ∧ w' = W)) (ct : Hid (∀ W, Calls Tryz.prog 124 #[.string ⟨(l.drop p).toArray⟩, .string ⟨#[116, 114, 117, 101]⟩] W fun e w' => e = .returned (.bool false) ∧ w' = W)) (cf : Hid (∀ W, Calls Tryz.prog 124 #[.string ⟨(l.drop p).toArray⟩, .string ⟨#[102, 97, 108, 115, 101]⟩] W fun e w' => e = .returned (.bool false) ∧ w' = W)) (cm : Hid (∀ W, Calls Tryz.prog 124 #[.string ⟨(l.drop p).toArray⟩, .string ⟨#[45]⟩] W fun e w' => e = .returned (.bool true) ∧ w' = W)) (hp1 : p + 1 ≤ l.length) (hf : Hid ((p + 1) + ((l.drop (p + 1)).takeWhile figb).length = z)) (hpz : p ≤ z) (hz : z ≤ l.length) (V : VR) (hV : Hid (rdP ((l.drop p).take (z - p)) = V)) :
  Calls Tryz.prog 121 #[.pointer (some ⟨b, 0, none⟩)] w (AnsE w b l (litAns p z V)) := by
 have hbw := hR.lt
 go_enter Tryz.func121, Tryz.ntmps121
 go_wp2_with fail
 have XB := new_exbox w 52
 have hbW : Below w.heap.size w (w.alloc (.cells #[.int .i64 0, .string ⟨#[]⟩, .int .i64 0, .int .i64 0, .string ⟨#[]⟩, .slice none 0 0] 52)) := by go_grown
 have hR0 := hR.keep hbW
 have hg0 := grown_belowB (grown_refl w b) hbW
 have hL0 := hL.below hbW
 have hz0 : (w.alloc (.cells #[.int .i64 0, .string ⟨#[]⟩, .int .i64 0, .int .i64 0, .string ⟨#[]⟩, .slice none 0 0] 52)).heap.size = w.heap.size + 1 := by simp
 generalize w.alloc (.cells #[.int .i64 0, .string ⟨#[]⟩, .int .i64 0, .int .i64 0, .string ⟨#[]⟩, .slice none 0 0] 52) = w0 at XB hR0 hg0 hL0 hz0 ⊢
 clear hbW hR hL
 have hne1 : ¬ w.heap.size = b := by omega
 have hne2 : ¬ b = w.heap.size := by omega
 obtain ⟨r0, r1, r2, r3⟩ := id hR0
 go_quiet (fail)
 have XB1 := XB.drewN nq
 have hR1 := hR0.drewN nq
 have hg1 := grown_drewN hg0 nq
 have hL1 : Laid (w0.drewN nq) := ⟨hL0.t.drewN nq, ⟨hL0.e.s, hL0.e.r⟩, hL0.p⟩
 have hz1 : (w0.drewN nq).heap.size = w.heap.size + 1 := hz0
 generalize w0.drewN nq = w1 at XB1 hR1 hg1 hL1 hz1 ⊢
 clear r0 r1 r2 r3 XB hR0 hg0 hL0 hz0
 clear w0
 obtain ⟨r0, r1, r2, r3⟩ := id hR1
 have g1 : ¬ (l.length : Int) < (p : Int) := by omega
 have g2 : ¬ (p : Int) < 0 := by omega
 have g3 : 0 ≤ (p : Int) ∧ (p : Int) ≤ (l.length : Int) := by omega
 have g4 : (p : Int) ≤ (l.length : Int) := by omega
 have g5 : (l.length : Int) ≤ 2000 := by omega
 go_wp2_with fail
 refine (c34.out _).mono ?_
 rintro e w1 ⟨rfl, rfl⟩
 go_wp2_with fail
 refine (ct.out _).mono ?_
 rintro e w1 ⟨rfl, rfl⟩
 go_wp2_with fail
 refine (cf.out _).mono ?_
 rintro e w1 ⟨rfl, rfl⟩
 go_wp2_with fail
 refine (cm.out _).mono ?_
 rintro e w1 ⟨rfl, rfl⟩
 go_wp2_with fail
 go_loop [4] (fun i => ∃ k : Nat, p ≤ k ∧ k ≤ l.length ∧ i = .int .i64 k ∧ Hid (k + ((l.drop k).takeWhile figb).length = z)) (fun i => l.length - (intOf i).toNat)
 case atStart => exact ⟨p + 1, by omega, hp1, by go_num, hf⟩
 case round =>
  obtain ⟨k, hpk, hk, rfl, hf⟩ := hrel
  by_cases hlt : k < l.length
  ·obtain ⟨x, hx⟩ : ∃ x, l[k]? = some x := ⟨_, List.getElem?_eq_getElem hlt⟩
   have E : (⟨l.toArray⟩ : ByteArray)[k]'(by simpa [ByteArray.size] using hlt) = x := byte_at' hx _
   have hlt' : (k : Int) < (l.length : Int) := by omega
   have hf' := hf.out
   rw [drop_at hx, List.takeWhile_cons] at hf'
   cases hfx : figb x with
   | true =>
    rw [hfx, if_pos rfl, List.length_cons] at hf'
    have hF : Hid ((k + 1) + ((l.drop (k + 1)).takeWhile figb).length = z) := Lib.hid (by omega)
    have hd := Lib.hid (fun W => digit_any x W)
    rw [hfx] at hd
    clear hf hf' hfx hx
    go_wp2_with fail
    refine (hd.out _).mono ?_
    rintro e w1 ⟨rfl, rfl⟩
    go_wp2_with fail
    go_round
    case rel => exact ⟨k + 1, by omega, by omega, by go_num, hF⟩
    case measure => simp [intOf]; omega
   | false =>
    rw [hfx, if_neg (by simp)] at hf'
    simp only [List.length_nil, Nat.add_zero] at hf'
    have hd := Lib.hid (fun W => digit_any x W)
    rw [hfx] at hd
    clear hf hfx hx hpk
    obtain rfl := hf'.symm
    go_wp2_with fail
    refine (hd.out _).mono ?_
    rintro e w1 ⟨rfl, rfl⟩
    have g6 : (z : Int) ≤ (l.length : Int) := by omega
    have g7 : (p : Int) ≤ (z : Int) := by omega
    go_wp2_with fail
    rw [ext_mid l p z]
    refine (read_any _ w1 (by simp only [List.length_take, List.length_drop]; omega) hL1.t hL1.e hL1.p).mono ?_
    rw [hV.out]
    obtain ⟨vs, vn, vt, ve⟩ := V
    rintro e w4 ⟨rfl, hb4⟩
    have XB4 := XB1.keep hb4 XB1.lt
    have hR4 := hR1.keep hb4
    have hg4 := grown_belowB hg1 hb4
    have hz4 : w.heap.size + 1 ≤ w4.heap.size := by rw [← hz1]; exact hb4.size
    clear r0 r1 r2 r3 XB1 hR1 hg1 hL1 hz1 hb4 c34 hV
    try clear w1
    obtain ⟨r0, r1, r2, r3⟩ := id hR4
    obtain ⟨x0, x1, x2, x3, x4, x5, x6, x7⟩ := id XB4
    have hne3 : ¬ b = w4.heap.size := by omega
    have hne4 : ¬ w4.heap.size = b := by omega
    have hne5 : ¬ w.heap.size = w4.heap.size := by omega
    have hne6 : ¬ w4.heap.size = w.heap.size := by omega
    by_cases hve : ve = 0
    ·subst hve
     rename_i K1 K2 h1 h2
     have H1 := Lib.hid h1
     clear h1
     go_wp2_with fail
     have hv0 : (w4.alloc (.cells #[.int .i64 vs, .int .i64 vn, .string ⟨vt.toArray⟩] 26)).cell? ⟨w4.heap.size, 0, none⟩ = some (.int .i64 vs) := by simp [go_sem]
     have hv1 : (w4.alloc (.cells #[.int .i64 vs, .int .i64 vn, .string ⟨vt.toArray⟩] 26)).cell? ⟨w4.heap.size, 1, none⟩ = some (.int .i64 vn) := by simp [go_sem]
     have hv2 : (w4.alloc (.cells #[.int .i64 vs, .int .i64 vn, .string ⟨vt.toArray⟩] 26)).cell? ⟨w4.heap.size, 2, none⟩ = some (.string ⟨vt.toArray⟩) := by simp [go_sem]
     have hb5 : Below w4.heap.size w4 (w4.alloc (.cells #[.int .i64 vs, .int .i64 vn, .string ⟨vt.toArray⟩] 26)) := by go_grown
     generalize w4.alloc (.cells #[.int .i64 vs, .int .i64 vn, .string ⟨vt.toArray⟩] 26) = w5 at hv0 hv1 hv2 hb5 ⊢
     have XB5 := XB4.keep hb5 XB4.lt
     have hR5 := hR4.keep hb5
     have hg5 := grown_belowB hg4 hb5
     clear r0 r1 r2 r3 x0 x1 x2 x3 x4 x5 x6 x7 XB4 hR4 hg4 hb5 hz4
     generalize w4.heap.size = X at hne3 hne4 hne5 hne6 hv0 hv1 hv2 ⊢
     clear w4
     obtain ⟨r0, r1, r2, r3⟩ := id hR5
     refine H1.out _ _ ?_
     clear H1
     go_step
     rename_i K3 h3
     have H3 := Lib.hid h3
     clear h3
     go_wp2_with fail
     refine H3.out _ _ ?_
     clear H3
     go_step
     rename_i K4 h4
     have H4 := Lib.hid h4
     clear h4
     go_wp2_with fail
     have hR6 := hR5.set z
     have hg6 := grown_trans hg5 (grown_at w5 b 1 (.int .i64 (z : Int)))
     have XB6 := XB5.far (p := ⟨b, 1, none⟩) hne2 (.int .i64 (z : Int))
     replace hv0 := (World.cell?_setCell_far w5 ⟨b, 1, none⟩ ⟨X, 0, none⟩ (.int .i64 (z : Int)) hne3).trans hv0
     replace hv1 := (World.cell?_setCell_far w5 ⟨b, 1, none⟩ ⟨X, 1, none⟩ (.int .i64 (z : Int)) hne3).trans hv1
     replace hv2 := (World.cell?_setCell_far w5 ⟨b, 1, none⟩ ⟨X, 2, none⟩ (.int .i64 (z : Int)) hne3).trans hv2
     generalize w5.setCell ⟨b, 1, none⟩ (.int .i64 (z : Int)) = w6 at hR6 hg6 XB6 hv0 hv1 hv2 ⊢
     clear r0 r1 r2 r3 XB5 hR5 hg5
     clear w5
     obtain ⟨x0, x1, x2, x3, x4, x5, x6, x7⟩ := id XB6
     refine H4.out _ _ ?_
     clear H4
     go_step
     rename_i K5 h5
     have H5 := Lib.hid h5
     clear h5
     go_wp2_with fail
     obtain ⟨W, hW⟩ : ∃ W, ((((((w6.setCell ⟨w.heap.size, 0, none⟩ (.int .i64 1)).setCell ⟨w.heap.size, 1, none⟩ (.string ⟨#[]⟩)).setCell ⟨w.heap.size, 2, none⟩ (.int .i64 vs)).setCell ⟨w.heap.size, 3, none⟩ (.int .i64 vn)).setCell ⟨w.heap.size, 4, none⟩ (.string ⟨vt.toArray⟩)).setCell ⟨w.heap.size, 5, none⟩ (.slice none 0 0)) = W := ⟨_, rfl⟩
     rw [hW]
     obtain ⟨hF, hgF, hRF, hT⟩ := efinish hbw (Nat.le_refl _) hg6 hR6 XB6 (.mk 1 [] vs vn vt []) (.slice none 0 0) (no_exs _ _) hW
     clear hW x0 x1 x2 x3 x4 x5 x6 x7
     obtain ⟨d0, d1, d2, d3, d4, d5, d6, d7⟩ := hF
     refine H5.out _ _ ?_
     clear H5
     go_step
     refine bodyPost_ret (v := .agg #[.int .i64 1, .string ⟨([] : Str).toArray⟩, .int .i64 vs, .int .i64 vn, .string ⟨vt.toArray⟩, .slice none 0 0]) (by simp [results, Tryz.results121, go_sem, d0, d1, d2, d3, d4, d5, Ex.kind, Ex.name, Ex.vs, Ex.vn, Ex.vt]) rfl ?_
     unfold litAns
     rw [if_pos rfl]
     exact ⟨hgF, _, rfl, hT, hRF⟩
    ·have hve' : (ve != 0) = true := by rw [bne_iff_ne]; exact hve
     go_wp2_with fail
     have hb5 : Below w4.heap.size w4 (w4.alloc (.cells #[.int .i64 vs, .int .i64 vn, .string ⟨vt.toArray⟩] 26)) := by go_grown
     refine (efail_any ve l b p _ (hR4.keep hb5)).mono ?_
     rintro e w6 ⟨rfl, hg6⟩
     refine ⟨rfl, ?_⟩
     unfold litAns
     rw [if_neg hve]
     exact ⟨grown_trans (grown_belowB hg4 hb5) hg6, rfl⟩
  ·have hf' := hf.out
   rw [List.drop_eq_nil_of_le (by omega)] at hf'
   simp only [List.takeWhile_nil, List.length_nil, Nat.add_zero] at hf'
   obtain rfl := hf'.symm
   have hlt' : decide ((z : Int) < (l.length : Int)) = false := by simp; omega
   clear hf hpk
   have g6 : (z : Int) ≤ (l.length : Int) := by omega
   have g7 : (p : Int) ≤ (z : Int) := by omega
   go_wp2_with fail
   rw [ext_mid l p z]
   refine (read_any _ w1 (by simp only [List.length_take, List.length_drop]; omega) hL1.t hL1.e hL1.p).mono ?_
   rw [hV.out]
   obtain ⟨vs, vn, vt, ve⟩ := V
   rintro e w4 ⟨rfl, hb4⟩
   have XB4 := XB1.keep hb4 XB1.lt
   have hR4 := hR1.keep hb4
   have hg4 := grown_belowB hg1 hb4
   have hz4 : w.heap.size + 1 ≤ w4.heap.size := by rw [← hz1]; exact hb4.size
   clear r0 r1 r2 r3 XB1 hR1 hg1 hL1 hz1 hb4 c34 hV
   try clear w1
   obtain ⟨r0, r1, r2, r3⟩ := id hR4
   obtain ⟨x0, x1, x2, x3, x4, x5, x6, x7⟩ := id XB4
   have hne3 : ¬ b = w4.heap.size := by omega
   have hne4 : ¬ w4.heap.size = b := by omega
   have hne5 : ¬ w.heap.size = w4.heap.size := by omega
   have hne6 : ¬ w4.heap.size = w.heap.size := by omega
   by_cases hve : ve = 0
   ·subst hve
    rename_i K1 K2 h1 h2
    have H1 := Lib.hid h1
    clear h1
    go_wp2_with fail
    have hv0 : (w4.alloc (.cells #[.int .i64 vs, .int .i64 vn, .string ⟨vt.toArray⟩] 26)).cell? ⟨w4.heap.size, 0, none⟩ = some (.int .i64 vs) := by simp [go_sem]
    have hv1 : (w4.alloc (.cells #[.int .i64 vs, .int .i64 vn, .string ⟨vt.toArray⟩] 26)).cell? ⟨w4.heap.size, 1, none⟩ = some (.int .i64 vn) := by simp [go_sem]
    have hv2 : (w4.alloc (.cells #[.int .i64 vs, .int .i64 vn, .string ⟨vt.toArray⟩] 26)).cell? ⟨w4.heap.size, 2, none⟩ = some (.string ⟨vt.toArray⟩) := by simp [go_sem]
    have hb5 : Below w4.heap.size w4 (w4.alloc (.cells #[.int .i64 vs, .int .i64 vn, .string ⟨vt.toArray⟩] 26)) := by go_grown
    generalize w4.alloc (.cells #[.int .i64 vs, .int .i64 vn, .string ⟨vt.toArray⟩] 26) = w5 at hv0 hv1 hv2 hb5 ⊢
    have XB5 := XB4.keep hb5 XB4.lt
    have hR5 := hR4.keep hb5
    have hg5 := grown_belowB hg4 hb5
    clear r0 r1 r2 r3 x0 x1 x2 x3 x4 x5 x6 x7 XB4 hR4 hg4 hb5 hz4
    generalize w4.heap.size = X at hne3 hne4 hne5 hne6 hv0 hv1 hv2 ⊢
    clear w4
    obtain ⟨r0, r1, r2, r3⟩ := id hR5
    refine H1.out _ _ ?_
    clear H1
    go_step
    rename_i K3 h3
    have H3 := Lib.hid h3
    clear h3
    go_wp2_with fail
    refine H3.out _ _ ?_
    clear H3
    go_step
    rename_i K4 h4
    have H4 := Lib.hid h4
    clear h4
    go_wp2_with fail
    have hR6 := hR5.set z
    have hg6 := grown_trans hg5 (grown_at w5 b 1 (.int .i64 (z : Int)))
    have XB6 := XB5.far (p := ⟨b, 1, none⟩) hne2 (.int .i64 (z : Int))
    replace hv0 := (World.cell?_setCell_far w5 ⟨b, 1, none⟩ ⟨X, 0, none⟩ (.int .i64 (z : Int)) hne3).trans hv0
    replace hv1 := (World.cell?_setCell_far w5 ⟨b, 1, none⟩ ⟨X, 1, none⟩ (.int .i64 (z : Int)) hne3).trans hv1
    replace hv2 := (World.cell?_setCell_far w5 ⟨b, 1, none⟩ ⟨X, 2, none⟩ (.int .i64 (z : Int)) hne3).trans hv2
    generalize w5.setCell ⟨b, 1, none⟩ (.int .i64 (z : Int)) = w6 at hR6 hg6 XB6 hv0 hv1 hv2 ⊢
    clear r0 r1 r2 r3 XB5 hR5 hg5
    clear w5
    obtain ⟨x0, x1, x2, x3, x4, x5, x6, x7⟩ := id XB6
    refine H4.out _ _ ?_
    clear H4
    go_step
    rename_i K5 h5
    have H5 := Lib.hid h5
    clear h5
    go_wp2_with fail
    obtain ⟨W, hW⟩ : ∃ W, ((((((w6.setCell ⟨w.heap.size, 0, none⟩ (.int .i64 1)).setCell ⟨w.heap.size, 1, none⟩ (.string ⟨#[]⟩)).setCell ⟨w.heap.size, 2, none⟩ (.int .i64 vs)).setCell ⟨w.heap.size, 3, none⟩ (.int .i64 vn)).setCell ⟨w.heap.size, 4, none⟩ (.string ⟨vt.toArray⟩)).setCell ⟨w.heap.size, 5, none⟩ (.slice none 0 0)) = W := ⟨_, rfl⟩
    rw [hW]
    obtain ⟨hF, hgF, hRF, hT⟩ := efinish hbw (Nat.le_refl _) hg6 hR6 XB6 (.mk 1 [] vs vn vt []) (.slice none 0 0) (no_exs _ _) hW
    clear hW x0 x1 x2 x3 x4 x5 x6 x7
    obtain ⟨d0, d1, d2, d3, d4, d5, d6, d7⟩ := hF
    refine H5.out _ _ ?_
    clear H5
    go_step
    refine bodyPost_ret (v := .agg #[.int .i64 1, .string ⟨([] : Str).toArray⟩, .int .i64 vs, .int .i64 vn, .string ⟨vt.toArray⟩, .slice none 0 0]) (by simp [results, Tryz.results121, go_sem, d0, d1, d2, d3, d4, d5, Ex.kind, Ex.name, Ex.vs, Ex.vn, Ex.vt]) rfl ?_
    unfold litAns
    rw [if_pos rfl]
    exact ⟨hgF, _, rfl, hT, hRF⟩
   ·have hve' : (ve != 0) = true := by rw [bne_iff_ne]; exact hve
    go_wp2_with fail
    have hb5 : Below w4.heap.size w4 (w4.alloc (.cells #[.int .i64 vs, .int .i64 vn, .string ⟨vt.toArray⟩] 26)) := by go_grown
    refine (efail_any ve l b p _ (hR4.keep hb5)).mono ?_
    rintro e w6 ⟨rfl, hg6⟩
    refine ⟨rfl, ?_⟩
    unfold litAns
    rw [if_neg hve]
    exact ⟨grown_trans (grown_belowB hg4 hb5) hg6, rfl⟩
set_option maxHeartbeats 4000000 in
theorem elit_quote (l : Str) (b p : Nat) (w : World) (hl : l.length ≤ 2000) (hp : p ≤ l.length) (hR : RBox w b l p) (hL : Laid w) (z : Nat) (c34 : Hid (∀ W, Calls Tryz.prog 124 #[.string ⟨(l.drop p).toArray⟩, .string ⟨#[34]⟩] W fun e w' => e = .returned (.bool true) ∧ w' = W)) (hp1 : p + 1 ≤ l.length) (hf : Hid ((p + 1) + scanQ (l.drop (p + 1)) = z)) (hpz : p ≤ z) (hz : z ≤ l.length) (V : VR) (hV : Hid (rdP ((l.drop p).take (z - p)) = V)) :
  Calls Tryz.prog 121 #[.pointer (some ⟨b, 0, none⟩)] w (AnsE w b l (litAns p z V)) := by
 have hbw := hR.lt
 go_enter Tryz.func121, Tryz.ntmps121
 go_wp2_with fail
 have XB := new_exbox w 52
 have hbW : Below w.heap.size w (w.alloc (.cells #[.int .i64 0, .string ⟨#[]⟩, .int .i64 0, .int .i64 0, .string ⟨#[]⟩, .slice none 0 0] 52)) := by go_grown
 have hR0 := hR.keep hbW
 have hg0 := grown_belowB (grown_refl w b) hbW
 have hL0 := hL.below hbW
 have hz0 : (w.alloc (.cells #[.int .i64 0, .string ⟨#[]⟩, .int .i64 0, .int .i64 0, .string ⟨#[]⟩, .slice none 0 0] 52)).heap.size = w.heap.size + 1 := by simp
 generalize w.alloc (.cells #[.int .i64 0, .string ⟨#[]⟩, .int .i64 0, .int .i64 0, .string ⟨#[]⟩, .slice none 0 0] 52) = w0 at XB hR0 hg0 hL0 hz0 ⊢
 clear hbW hR hL
 have hne1 : ¬ w.heap.size = b := by omega
 have hne2 : ¬ b = w.heap.size := by omega
 obtain ⟨r0, r1, r2, r3⟩ := id hR0
 go_quiet (fail)
 have XB1 := XB.drewN nq
 have hR1 := hR0.drewN nq
 have hg1 := grown_drewN hg0 nq
 have hL1 : Laid (w0.drewN nq) := ⟨hL0.t.drewN nq, ⟨hL0.e.s, hL0.e.r⟩, hL0.p⟩
 have hz1 : (w0.drewN nq).heap.size = w.heap.size + 1 := hz0
 generalize w0.drewN nq = w1 at XB1 hR1 hg1 hL1 hz1 ⊢
 clear r0 r1 r2 r3 XB hR0 hg0 hL0 hz0
 clear w0
 obtain ⟨r0, r1, r2, r3⟩ := id hR1
 have g1 : ¬ (l.length : Int) < (p : Int) := by omega
 have g2 : ¬ (p : Int) < 0 := by omega
 have g3 : 0 ≤ (p : Int) ∧ (p : Int) ≤ (l.length : Int) := by omega
 have g4 : (p : Int) ≤ (l.length : Int) := by omega
 have g5 : (l.length : Int) ≤ 2000 := by omega
 go_wp2_with fail
 refine (c34.out _).mono ?_
 rintro e w1 ⟨rfl, rfl⟩
 go_wp2_with fail
 go_loop [4] (fun i => ∃ k : Nat, p ≤ k ∧ k ≤ l.length + 1 ∧ i = .int .i64 k ∧ Hid ((if k ≤ l.length then k + scanQ (l.drop k) else l.length) = z)) (fun i => l.length + 1 - (intOf i).toNat)
 case atStart => exact ⟨p + 1, by omega, by omega, by go_num, Lib.hid (by rw [if_pos (by omega)]; exact hf.out)⟩
 case round =>
  obtain ⟨k, hpk, hk, rfl, hf⟩ := hrel
  by_cases hlt : k < l.length
  ·obtain ⟨x, hx⟩ : ∃ x, l[k]? = some x := ⟨_, List.getElem?_eq_getElem hlt⟩
   have E : (⟨l.toArray⟩ : ByteArray)[k]'(by simpa [ByteArray.size] using hlt) = x := byte_at' hx _
   have hlt' : (k : Int) < (l.length : Int) := by omega
   have hf' := hf.out
   rw [if_pos (by omega), drop_at hx] at hf'
   by_cases h34 : x = 34
   ·subst h34
    rw [show scanQ (34 :: l.drop (k + 1)) = 1 by rw [scanQ]] at hf'
    have hmin : min ((k : Int) + 1) (l.length : Int) = (z : Int) := by omega
    have hmin2 : min (k + 1) l.length = z := by omega
    clear hf hx
    go_wp2_with fail
    try rw [hmin]
    have g6 : (z : Int) ≤ (l.length : Int) := by omega
    have g7 : (p : Int) ≤ (z : Int) := by omega
    go_wp2_with fail
    rw [ext_mid l p z]
    refine (read_any _ w1 (by simp only [List.length_take, List.length_drop]; omega) hL1.t hL1.e hL1.p).mono ?_
    rw [hV.out]
    obtain ⟨vs, vn, vt, ve⟩ := V
    rintro e w4 ⟨rfl, hb4⟩
    have XB4 := XB1.keep hb4 XB1.lt
    have hR4 := hR1.keep hb4
    have hg4 := grown_belowB hg1 hb4
    have hz4 : w.heap.size + 1 ≤ w4.heap.size := by rw [← hz1]; exact hb4.size
    clear r0 r1 r2 r3 XB1 hR1 hg1 hL1 hz1 hb4 c34 hV
    try clear w1
    obtain ⟨r0, r1, r2, r3⟩ := id hR4
    obtain ⟨x0, x1, x2, x3, x4, x5, x6, x7⟩ := id XB4
    have hne3 : ¬ b = w4.heap.size := by omega
    have hne4 : ¬ w4.heap.size = b := by omega
    have hne5 : ¬ w.heap.size = w4.heap.size := by omega
    have hne6 : ¬ w4.heap.size = w.heap.size := by omega
    by_cases hve : ve = 0
    ·subst hve
     rename_i K1 K2 h1 h2
     have H1 := Lib.hid h1
     clear h1
     go_wp2_with fail
     have hv0 : (w4.alloc (.cells #[.int .i64 vs, .int .i64 vn, .string ⟨vt.toArray⟩] 26)).cell? ⟨w4.heap.size, 0, none⟩ = some (.int .i64 vs) := by simp [go_sem]
     have hv1 : (w4.alloc (.cells #[.int .i64 vs, .int .i64 vn, .string ⟨vt.toArray⟩] 26)).cell? ⟨w4.heap.size, 1, none⟩ = some (.int .i64 vn) := by simp [go_sem]
     have hv2 : (w4.alloc (.cells #[.int .i64 vs, .int .i64 vn, .string ⟨vt.toArray⟩] 26)).cell? ⟨w4.heap.size, 2, none⟩ = some (.string ⟨vt.toArray⟩) := by simp [go_sem]
     have hb5 : Below w4.heap.size w4 (w4.alloc (.cells #[.int .i64 vs, .int .i64 vn, .string ⟨vt.toArray⟩] 26)) := by go_grown
     generalize w4.alloc (.cells #[.int .i64 vs, .int .i64 vn, .string ⟨vt.toArray⟩] 26) = w5 at hv0 hv1 hv2 hb5 ⊢
     have XB5 := XB4.keep hb5 XB4.lt
     have hR5 := hR4.keep hb5
     have hg5 := grown_belowB hg4 hb5
     clear r0 r1 r2 r3 x0 x1 x2 x3 x4 x5 x6 x7 XB4 hR4 hg4 hb5 hz4
     generalize w4.heap.size = X at hne3 hne4 hne5 hne6 hv0 hv1 hv2 ⊢
     clear w4
     obtain ⟨r0, r1, r2, r3⟩ := id hR5
     refine H1.out _ _ ?_
     clear H1
     go_step
     rename_i K3 h3
     have H3 := Lib.hid h3
     clear h3
     go_wp2_with fail
     refine H3.out _ _ ?_
     clear H3
     go_step
     rename_i K4 h4
     have H4 := Lib.hid h4
     clear h4
     go_wp2_with fail
     have hR6 := hR5.set z
     have hg6 := grown_trans hg5 (grown_at w5 b 1 (.int .i64 (z : Int)))
     have XB6 := XB5.far (p := ⟨b, 1, none⟩) hne2 (.int .i64 (z : Int))
     replace hv0 := (World.cell?_setCell_far w5 ⟨b, 1, none⟩ ⟨X, 0, none⟩ (.int .i64 (z : Int)) hne3).trans hv0
     replace hv1 := (World.cell?_setCell_far w5 ⟨b, 1, none⟩ ⟨X, 1, none⟩ (.int .i64 (z : Int)) hne3).trans hv1
     replace hv2 := (World.cell?_setCell_far w5 ⟨b, 1, none⟩ ⟨X, 2, none⟩ (.int .i64 (z : Int)) hne3).trans hv2
     generalize w5.setCell ⟨b, 1, none⟩ (.int .i64 (z : Int)) = w6 at hR6 hg6 XB6 hv0 hv1 hv2 ⊢
     clear r0 r1 r2 r3 XB5 hR5 hg5
     clear w5
     obtain ⟨x0, x1, x2, x3, x4, x5, x6, x7⟩ := id XB6
     refine H4.out _ _ ?_
     clear H4
     go_step
     rename_i K5 h5
     have H5 := Lib.hid h5
     clear h5
     go_wp2_with fail
     obtain ⟨W, hW⟩ : ∃ W, ((((((w6.setCell ⟨w.heap.size, 0, none⟩ (.int .i64 1)).setCell ⟨w.heap.size, 1, none⟩ (.string ⟨#[]⟩)).setCell ⟨w.heap.size, 2, none⟩ (.int .i64 vs)).setCell ⟨w.heap.size, 3, none⟩ (.int .i64 vn)).setCell ⟨w.heap.size, 4, none⟩ (.string ⟨vt.toArray⟩)).setCell ⟨w.heap.size, 5, none⟩ (.slice none 0 0)) = W := ⟨_, rfl⟩
     rw [hW]
     obtain ⟨hF, hgF, hRF, hT⟩ := efinish hbw (Nat.le_refl _) hg6 hR6 XB6 (.mk 1 [] vs vn vt []) (.slice none 0 0) (no_exs _ _) hW
     clear hW x0 x1 x2 x3 x4 x5 x6 x7
     obtain ⟨d0, d1, d2, d3, d4, d5, d6, d7⟩ := hF
     refine H5.out _ _ ?_
     clear H5
     go_step
     refine bodyPost_ret (v := .agg #[.int .i64 1, .string ⟨([] : Str).toArray⟩, .int .i64 vs, .int .i64 vn, .string ⟨vt.toArray⟩, .slice none 0 0]) (by simp [results, Tryz.results121, go_sem, d0, d1, d2, d3, d4, d5, Ex.kind, Ex.name, Ex.vs, Ex.vn, Ex.vt]) rfl ?_
     unfold litAns
     rw [if_pos rfl]
     exact ⟨hgF, _, rfl, hT, hRF⟩
    ·have hve' : (ve != 0) = true := by rw [bne_iff_ne]; exact hve
     go_wp2_with fail
     have hb5 : Below w4.heap.size w4 (w4.alloc (.cells #[.int .i64 vs, .int .i64 vn, .string ⟨vt.toArray⟩] 26)) := by go_grown
     refine (efail_any ve l b p _ (hR4.keep hb5)).mono ?_
     rintro e w6 ⟨rfl, hg6⟩
     refine ⟨rfl, ?_⟩
     unfold litAns
     rw [if_neg hve]
     exact ⟨grown_trans (grown_belowB hg4 hb5) hg6, rfl⟩
   ·have h34' : ((x.toNat : Int) != 34) = true := by
     rw [bne_iff_ne]
     intro e
     exact h34 (UInt8.toNat.inj (by simpa using (by omega : x.toNat = 34)))
    by_cases h92 : x = 92
    ·subst h92
     have hF : Hid ((if k + 2 ≤ l.length then k + 2 + scanQ (l.drop (k + 2)) else l.length) = z) := by
      refine Lib.hid ?_
      by_cases hk2 : k + 2 ≤ l.length
      ·rw [if_pos hk2, ← hf']
       have : l[k + 1]? = some l[k + 1] := List.getElem?_eq_getElem (by omega)
       rw [drop_at this, scanQ, show k + 1 + 1 = k + 2 from rfl]
       omega
      ·rw [if_neg hk2, ← hf', List.drop_eq_nil_of_le (by omega), show scanQ [92] = 1 by rw [scanQ]]
       omega
     clear hf hf' hx
     go_wp2_with fail
     go_round
     case rel => exact ⟨k + 2, by omega, by omega, by go_num, hF⟩
     case measure => simp [intOf]; omega
    ·have h92' : ((x.toNat : Int) == 92) = false := by
      rw [beq_eq_false_iff_ne]
      intro e
      exact h92 (UInt8.toNat.inj (by simpa using (by omega : x.toNat = 92)))
     have hF : Hid ((if k + 1 ≤ l.length then k + 1 + scanQ (l.drop (k + 1)) else l.length) = z) := by
      refine Lib.hid ?_
      rw [if_pos (by omega), ← hf']
      have : scanQ (x :: l.drop (k + 1)) = 1 + scanQ (l.drop (k + 1)) := by
       rw [scanQ]
       ·exact fun h => h34 h
       ·exact fun h _ => h92 h
       ·exact fun _ _ h _ => h92 h
      omega
     clear hf hf' hx
     go_wp2_with fail
     go_round
     case rel => exact ⟨k + 1, by omega, by omega, by go_num, hF⟩
     case measure => simp [intOf]; omega
  ·have hf' := hf.out
   have hzl : z = l.length := by
    rw [← hf']
    split
    ·rw [List.drop_eq_nil_of_le (by omega), show scanQ [] = 0 from rfl]; omega
    ·rfl
   have hmin : min ((k : Int) + 1) (l.length : Int) = (z : Int) := by omega
   have hmin2 : min (k + 1) l.length = z := by omega
   have hlt' : decide ((k : Int) < (l.length : Int)) = false := by simp; omega
   clear hf hf' hzl
   go_wp2_with fail
   try rw [hmin]
   have g6 : (z : Int) ≤ (l.length : Int) := by omega
   have g7 : (p : Int) ≤ (z : Int) := by omega
   go_wp2_with fail
   rw [ext_mid l p z]
   refine (read_any _ w1 (by simp only [List.length_take, List.length_drop]; omega) hL1.t hL1.e hL1.p).mono ?_
   rw [hV.out]
   obtain ⟨vs, vn, vt, ve⟩ := V
   rintro e w4 ⟨rfl, hb4⟩
   have XB4 := XB1.keep hb4 XB1.lt
   have hR4 := hR1.keep hb4
   have hg4 := grown_belowB hg1 hb4
   have hz4 : w.heap.size + 1 ≤ w4.heap.size := by rw [← hz1]; exact hb4.size
   clear r0 r1 r2 r3 XB1 hR1 hg1 hL1 hz1 hb4 c34 hV
   try clear w1
   obtain ⟨r0, r1, r2, r3⟩ := id hR4
   obtain ⟨x0, x1, x2, x3, x4, x5, x6, x7⟩ := id XB4
   have hne3 : ¬ b = w4.heap.size := by omega
   have hne4 : ¬ w4.heap.size = b := by omega
   have hne5 : ¬ w.heap.size = w4.heap.size := by omega
   have hne6 : ¬ w4.heap.size = w.heap.size := by omega
   by_cases hve : ve = 0
   ·subst hve
    rename_i K1 K2 h1 h2
    have H1 := Lib.hid h1
    clear h1
    go_wp2_with fail
    have hv0 : (w4.alloc (.cells #[.int .i64 vs, .int .i64 vn, .string ⟨vt.toArray⟩] 26)).cell? ⟨w4.heap.size, 0, none⟩ = some (.int .i64 vs) := by simp [go_sem]
    have hv1 : (w4.alloc (.cells #[.int .i64 vs, .int .i64 vn, .string ⟨vt.toArray⟩] 26)).cell? ⟨w4.heap.size, 1, none⟩ = some (.int .i64 vn) := by simp [go_sem]
    have hv2 : (w4.alloc (.cells #[.int .i64 vs, .int .i64 vn, .string ⟨vt.toArray⟩] 26)).cell? ⟨w4.heap.size, 2, none⟩ = some (.string ⟨vt.toArray⟩) := by simp [go_sem]
    have hb5 : Below w4.heap.size w4 (w4.alloc (.cells #[.int .i64 vs, .int .i64 vn, .string ⟨vt.toArray⟩] 26)) := by go_grown
    generalize w4.alloc (.cells #[.int .i64 vs, .int .i64 vn, .string ⟨vt.toArray⟩] 26) = w5 at hv0 hv1 hv2 hb5 ⊢
    have XB5 := XB4.keep hb5 XB4.lt
    have hR5 := hR4.keep hb5
    have hg5 := grown_belowB hg4 hb5
    clear r0 r1 r2 r3 x0 x1 x2 x3 x4 x5 x6 x7 XB4 hR4 hg4 hb5 hz4
    generalize w4.heap.size = X at hne3 hne4 hne5 hne6 hv0 hv1 hv2 ⊢
    clear w4
    obtain ⟨r0, r1, r2, r3⟩ := id hR5
    refine H1.out _ _ ?_
    clear H1
    go_step
    rename_i K3 h3
    have H3 := Lib.hid h3
    clear h3
    go_wp2_with fail
    refine H3.out _ _ ?_
    clear H3
    go_step
    rename_i K4 h4
    have H4 := Lib.hid h4
    clear h4
    go_wp2_with fail
    have hR6 := hR5.set z
    have hg6 := grown_trans hg5 (grown_at w5 b 1 (.int .i64 (z : Int)))
    have XB6 := XB5.far (p := ⟨b, 1, none⟩) hne2 (.int .i64 (z : Int))
    replace hv0 := (World.cell?_setCell_far w5 ⟨b, 1, none⟩ ⟨X, 0, none⟩ (.int .i64 (z : Int)) hne3).trans hv0
    replace hv1 := (World.cell?_setCell_far w5 ⟨b, 1, none⟩ ⟨X, 1, none⟩ (.int .i64 (z : Int)) hne3).trans hv1
    replace hv2 := (World.cell?_setCell_far w5 ⟨b, 1, none⟩ ⟨X, 2, none⟩ (.int .i64 (z : Int)) hne3).trans hv2
    generalize w5.setCell ⟨b, 1, none⟩ (.int .i64 (z : Int)) = w6 at hR6 hg6 XB6 hv0 hv1 hv2 ⊢
    clear r0 r1 r2 r3 XB5 hR5 hg5
    clear w5
    obtain ⟨x0, x1, x2, x3, x4, x5, x6, x7⟩ := id XB6
    refine H4.out _ _ ?_
    clear H4
    go_step
    rename_i K5 h5
    have H5 := Lib.hid h5
    clear h5
    go_wp2_with fail
    obtain ⟨W, hW⟩ : ∃ W, ((((((w6.setCell ⟨w.heap.size, 0, none⟩ (.int .i64 1)).setCell ⟨w.heap.size, 1, none⟩ (.string ⟨#[]⟩)).setCell ⟨w.heap.size, 2, none⟩ (.int .i64 vs)).setCell ⟨w.heap.size, 3, none⟩ (.int .i64 vn)).setCell ⟨w.heap.size, 4, none⟩ (.string ⟨vt.toArray⟩)).setCell ⟨w.heap.size, 5, none⟩ (.slice none 0 0)) = W := ⟨_, rfl⟩
    rw [hW]
    obtain ⟨hF, hgF, hRF, hT⟩ := efinish hbw (Nat.le_refl _) hg6 hR6 XB6 (.mk 1 [] vs vn vt []) (.slice none 0 0) (no_exs _ _) hW
    clear hW x0 x1 x2 x3 x4 x5 x6 x7
    obtain ⟨d0, d1, d2, d3, d4, d5, d6, d7⟩ := hF
    refine H5.out _ _ ?_
    clear H5
    go_step
    refine bodyPost_ret (v := .agg #[.int .i64 1, .string ⟨([] : Str).toArray⟩, .int .i64 vs, .int .i64 vn, .string ⟨vt.toArray⟩, .slice none 0 0]) (by simp [results, Tryz.results121, go_sem, d0, d1, d2, d3, d4, d5, Ex.kind, Ex.name, Ex.vs, Ex.vn, Ex.vt]) rfl ?_
    unfold litAns
    rw [if_pos rfl]
    exact ⟨hgF, _, rfl, hT, hRF⟩
   ·have hve' : (ve != 0) = true := by rw [bne_iff_ne]; exact hve
    go_wp2_with fail
    have hb5 : Below w4.heap.size w4 (w4.alloc (.cells #[.int .i64 vs, .int .i64 vn, .string ⟨vt.toArray⟩] 26)) := by go_grown
    refine (efail_any ve l b p _ (hR4.keep hb5)).mono ?_
    rintro e w6 ⟨rfl, hg6⟩
    refine ⟨rfl, ?_⟩
    unfold litAns
    rw [if_neg hve]
    exact ⟨grown_trans (grown_belowB hg4 hb5) hg6, rfl⟩
theorem prefix_one (s : Str) (c : UInt8) : [c].isPrefixOf s = decide (s.head? = some c) := by
 cases s with
 | nil => rfl
 | cons b r =>
  rw [Bool.eq_iff_iff, decide_eq_true_eq]
  simp
  exact eq_comm
theorem scanQ_le : ∀ (s : Str), scanQ s ≤ s.length
 | [] => by simp [scanQ]
 | b :: r => by
  have ih := scanQ_le r
  by_cases h34 : b = 34
  ·subst h34; rw [scanQ]; simp
  ·by_cases h92 : b = 92
   ·subst h92
    cases r with
    | nil => rw [scanQ]; simp
    | cons c r =>
     have ih2 := scanQ_le r
     rw [scanQ]; simp only [List.length_cons]; omega
   ·rw [scanQ]
    ·simp only [List.length_cons]; omega
    ·exact fun h => h34 h
    ·exact fun h _ => h92 h
    ·exact fun _ _ h _ => h92 h
termination_by s => s.length
theorem pre_le {a s : Str} (h : a.isPrefixOf s = true) : a.length ≤ s.length := (List.isPrefixOf_iff_prefix.1 h).length_le
theorem litLen_le (s : Str) : litLen s ≤ s.length := by
 unfold litLen
 split
 ·rename_i h
  cases s with
  | nil => simp at h
  | cons b r => have := scanQ_le r; simp only [List.drop_succ_cons, List.drop_zero, List.length_cons]; omega
 ·split
  ·rename_i h; exact pre_le h
  ·split
   ·rename_i h; exact pre_le h
   ·split
    ·rename_i h
     cases s with
     | nil => simp at h
     | cons b r => have := (List.takeWhile_sublist figb (l := r)).length_le; simp only [List.drop_succ_cons, List.drop_zero, List.length_cons]; omega
    ·exact (List.takeWhile_sublist figb (l := s)).length_le
def litEnd (l : Str) (p : Nat) : Yd.Res Ex := litAns p (p + litLen (l.drop p)) (rdP ((l.drop p).take (litLen (l.drop p))))
theorem elit_any (l : Str) (b p : Nat) (w : World) (hl : l.length ≤ 2000) (hp : p ≤ l.length) (hR : RBox w b l p) (hL : Laid w) :
  Calls Tryz.prog 121 #[.pointer (some ⟨b, 0, none⟩)] w (AnsE w b l (litEnd l p)) := by
 have hle := litLen_le (l.drop p)
 rw [List.length_drop] at hle
 unfold litEnd
 obtain ⟨z, hz⟩ : ∃ z, p + litLen (l.drop p) = z := ⟨_, rfl⟩
 obtain ⟨V, hV⟩ : ∃ V, rdP ((l.drop p).take (litLen (l.drop p))) = V := ⟨_, rfl⟩
 have hzl : z ≤ l.length := by omega
 have hpz : p ≤ z := by omega
 have hV' : rdP ((l.drop p).take (z - p)) = V := by rw [← hV, ← hz, Nat.add_sub_cancel_left]
 rw [hz, hV]
 have cal : ∀ (a : Str) (v : Bool), a.isPrefixOf (l.drop p) = v → Hid (∀ W, Calls Tryz.prog 124 #[.string ⟨(l.drop p).toArray⟩, .string ⟨a.toArray⟩] W fun e w' => e = .returned (.bool v) ∧ w' = W) := fun a v h => by
  refine Lib.hid fun W => ?_
  have := prefix_any (l.drop p) a W
  rwa [h] at this
 have p34 := prefix_one (l.drop p) 34
 have p45 := prefix_one (l.drop p) 45
 have one : ∀ c, (l.drop p).head? = some c → p + 1 ≤ l.length := by
  intro c h
  rcases Nat.lt_or_ge p l.length with hx | hx
  ·omega
  ·rw [List.drop_eq_nil_of_le hx] at h; simp at h
 have dr : (l.drop p).drop 1 = l.drop (p + 1) := by rw [List.drop_drop]
 unfold litLen at hz
 rw [dr] at hz
 by_cases h34 : (l.drop p).head? = some 34
 ·rw [if_pos h34] at hz
  rw [decide_eq_true h34] at p34
  exact elit_quote l b p w hl hp hR hL z (cal [34] _ p34) (one _ h34) (Lib.hid (by omega)) hpz hzl V (Lib.hid hV')
 ·rw [if_neg h34] at hz
  rw [decide_eq_false h34] at p34
  cases ht : trueS.isPrefixOf (l.drop p) with
  | true =>
   rw [if_pos ht] at hz
   exact elit_true l b p w hl hp hR hL z (cal [34] _ p34) (cal trueS _ ht) hz hpz hzl V (Lib.hid hV')
  | false =>
   rw [if_neg (by rw [ht]; simp)] at hz
   cases hf : falseS.isPrefixOf (l.drop p) with
   | true =>
    rw [if_pos hf] at hz
    exact elit_false l b p w hl hp hR hL z (cal [34] _ p34) (cal trueS _ ht) (cal falseS _ hf) hz hpz hzl V (Lib.hid hV')
   | false =>
    rw [if_neg (by rw [hf]; simp)] at hz
    by_cases h45 : (l.drop p).head? = some 45
    ·rw [if_pos h45] at hz
     rw [decide_eq_true h45] at p45
     exact elit_minus l b p w hl hp hR hL z (cal [34] _ p34) (cal trueS _ ht) (cal falseS _ hf) (cal [45] _ p45) (one _ h45) (Lib.hid (by omega)) hpz hzl V (Lib.hid hV')
    ·rw [if_neg h45] at hz
     rw [decide_eq_false h45] at p45
     exact elit_num l b p w hl hp hR hL z (cal [34] _ p34) (cal trueS _ ht) (cal falseS _ hf) (cal [45] _ p45) (Lib.hid hz) hpz hzl V (Lib.hid hV')
end Go.Proofs.YtpidjanngbaiiaaGreatDoor
