/-
  The program's reader of a type: one, where no word stands.
  The program's reader of a type: what is passed.
  The reference's reader of a type: ScanType, by cases of the word that stands there.
  As Held, for an operation that the tail waits for through others.
-/
import Derived.Test.YtpidjanngbaiiaaGreatDoorM9
import Derived.Test.YtpidjanngbaiiaaGreatDoorM10
import Derived.Test.YtpidjanngbaiiaaGreatDoorM5
namespace Go.Proofs.YtpidjanngbaiiaaGreatDoor
open Go.RowKit Go.Proofs

set_option maxRecDepth 100000
section
variable (l : Str) (b p : Nat) (w : World) (hl : l.length ≤ 2000) (hp : p ≤ l.length) (hR : RBox w b l p)
include hl hp hR
set_option maxHeartbeats 2000000 in
theorem one_stuck (W : Str) (h : wd l (sk l p) = W) (h0 : W ≠ []) (h1 : W ≠ endW) (h2 : W ≠ recW) (h3 : isVar W = false) : Calls Tryz.prog 136 #[.pointer (some ⟨b, 0, none⟩)] w (Ans w b l (.bad (sk l p))) := by
 have hs := sk_le hp
 have hw := wd_le hs.2
 rw [h] at hw
 have hcall := fun w hR => word_any l b p w hl hp hR
 rw [h] at hcall
 generalize sk l p = q at hs hw hcall ⊢
 clear h
 have H3 := Lib.hid h3; clear h3
 have n1 : (W == [101, 110, 100]) = false := by simpa [endW] using h1
 have n2 : (W == [114, 101, 99]) = false := by simpa [recW] using h2
 have n3 : (W == []) = false := by simpa using h0
 have hbw := hR.lt
 go_enter Tryz.func136, Tryz.ntmps136
 go_wp2_with fail
 have XB := new_box w 30
 have hbW : Below w.heap.size w (w.alloc (.cells #[.int .i64 0, .int .i64 0, .string ⟨#[]⟩, .slice none 0 0, .slice none 0 0] 30)) := by go_grown
 have hR0 := hR.keep hbW
 have hg0 := grown_belowB (grown_refl w b) hbW
 generalize w.alloc (.cells #[.int .i64 0, .int .i64 0, .string ⟨#[]⟩, .slice none 0 0, .slice none 0 0] 30) = w0 at XB hR0 hg0 ⊢
 clear hbW hR
 have hne1 : ¬ w.heap.size = b := by omega
 have hne2 : ¬ b = w.heap.size := by omega
 refine (hcall w0 hR0).mono ?_
 rintro e w1 ⟨rfl, hg, hR1⟩
 have hg1 := grown_trans hg0 hg
 replace XB := XB.grown' hg (by omega)
 clear hg hR0 hg0
 obtain ⟨r0, r1, r2, r3⟩ := id hR1
 obtain ⟨x0, x1, x2, x3, x4, x5, x6⟩ := id XB
 go_wp2_with fail
 refine (isVar_any W _ (by omega)).mono ?_; rw [H3.out]; rintro e w2 ⟨rfl, hb2⟩
 replace hR1 := hR1.keep hb2
 replace hg1 := grown_belowB hg1 hb2
 clear r0 r1 r2 r3 x0 x1 x2 x3 x4 x5 x6 hb2 XB
 clear w1
 go_wp2_with fail
 refine (fail_any l b q w2 hR1).mono ?_
 rintro e w3 ⟨rfl, hg3⟩
 exact ⟨rfl, grown_trans hg1 hg3, rfl⟩
set_option maxHeartbeats 2000000 in
theorem one_sign (S : World → Prop) (hSk : ∀ w w' : World, S w → w.grownBy w' (some b) → S w') (hS : S w) (h : wd l (sk l p) = []) (R1 R2 R3 R4 : Rd Ty) (h1 : l[sk l p]? = some 33 → ∀ w, S w → RBox w b l (sk l p) → Calls Tryz.prog 167 #[.pointer (some ⟨b, 0, none⟩), .int .i64 2, .int .i64 4] w (Ans w b l R1)) (h2 : l[sk l p]? = some 63 → ∀ w, S w → RBox w b l (sk l p) → Calls Tryz.prog 167 #[.pointer (some ⟨b, 0, none⟩), .int .i64 3, .int .i64 5] w (Ans w b l R2)) (h3 : l[sk l p]? = some 43 → ∀ w, S w → RBox w b l (sk l p) → Calls Tryz.prog 168 #[.pointer (some ⟨b, 0, none⟩), .int .i64 6] w (Ans w b l R3)) (h4 : l[sk l p]? = some 38 → ∀ w, S w → RBox w b l (sk l p) → Calls Tryz.prog 168 #[.pointer (some ⟨b, 0, none⟩), .int .i64 7] w (Ans w b l R4)) : Calls Tryz.prog 136 #[.pointer (some ⟨b, 0, none⟩)] w (Ans w b l (if l[sk l p]? = some 33 then R1 else if l[sk l p]? = some 63 then R2 else if l[sk l p]? = some 43 then R3 else if l[sk l p]? = some 38 then R4 else .bad (sk l p))) := by
 have hs := sk_le hp
 have hw := wd_le hs.2
 rw [h] at hw
 have hcall := fun w hR => word_any l b p w hl hp hR
 rw [h] at hcall
 have hqq := sk_sk l p
 generalize sk l p = q at hs hw hcall hqq h1 h2 h3 h4 ⊢
 obtain ⟨RES, hRES⟩ : ∃ r, (if l[q]? = some 33 then R1 else if l[q]? = some 63 then R2 else if l[q]? = some 43 then R3 else if l[q]? = some 38 then R4 else .bad q : Rd Ty) = r := ⟨_, rfl⟩
 rw [hRES]
 have HRES := Lib.hid hRES; clear hRES
 clear h
 have hbw := hR.lt
 go_enter Tryz.func136, Tryz.ntmps136
 go_wp2_with fail
 have XB := new_box w 30
 have hbW : Below w.heap.size w (w.alloc (.cells #[.int .i64 0, .int .i64 0, .string ⟨#[]⟩, .slice none 0 0, .slice none 0 0] 30)) := by go_grown
 have hR0 := hR.keep hbW
 have hg0 := grown_belowB (grown_refl w b) hbW
 generalize w.alloc (.cells #[.int .i64 0, .int .i64 0, .string ⟨#[]⟩, .slice none 0 0, .slice none 0 0] 30) = w0 at XB hR0 hg0 ⊢
 clear hbW hR
 have hne1 : ¬ w.heap.size = b := by omega
 have hne2 : ¬ b = w.heap.size := by omega
 refine (hcall w0 hR0).mono ?_
 rintro e w1 ⟨rfl, hg, hR1⟩
 have hg1 := grown_trans hg0 hg
 replace XB := XB.grown' hg (by omega)
 clear hg hR0 hg0
 obtain ⟨r0, r1, r2, r3⟩ := id hR1
 obtain ⟨x0, x1, x2, x3, x4, x5, x6⟩ := id XB
 go_wp2_with fail
 have hv0 : isVar [] = false := by decide
 have HV0 := Lib.hid hv0; clear hv0
 refine (isVar_any [] _ (by simp)).mono ?_; rw [HV0.out]; rintro e w2 ⟨rfl, hb2⟩
 have XB2 := XB.keep hb2 XB.lt
 have hR2 := hR1.keep hb2
 have hg2 := grown_belowB hg1 hb2
 clear r0 r1 r2 r3 x0 x1 x2 x3 x4 x5 x6 hb2 XB hR1 hg1
 clear w1
 go_wp2_with fail
 have hcal := is_any l b q 33 w2 hl hs.2 hR2
 rw [hqq] at hcal
 cases hd : decide (l[q]? = some 33) with
 | true =>
  rw [hd] at hcal
  refine hcal.mono ?_; clear hcal
  rintro e w3 ⟨rfl, hg, hR3⟩
  have hg3 := grown_trans hg2 hg
  have XB3 := XB2.grown' hg (by omega)
  clear hg hR2 hg2 XB2
  clear w2
  go_wp2_with fail
  have hd' : l[q]? = some 33 := by simpa using hd
  have hS3 := hSk w w3 hS hg3
  refine (h1 hd' w3 hS3 hR3).mono ?_
  rintro e w4 ⟨hg, hans⟩
  have hg4 := grown_trans hg3 hg
  have XB4 := XB3.grown' hg (by omega)
  have hX := XB3.lt
  have HE : Hid (R1 = RES) := Lib.hid (by rw [← HRES.out, if_pos hd'])
  clear HRES
  cases R1 with
  | bad q' =>
   simp only at hans
   subst hans
   refine ⟨rfl, hg4, ?_⟩
   rw [← HE.out]
  | ok t q' =>
   obtain ⟨v, rfl, hT, hR4⟩ := hans
   obtain ⟨k, s, n, ls, ks⟩ := t
   obtain ⟨lv, kv, rfl, k1, k2⟩ := hT
   simp only [Ty.kind, Ty.sort, Ty.name, Ty.labels, Ty.kids] at k1 k2 ⊢
   have K1 := Lib.hid (k1.keep (D' := fun k => w.heap.size ≤ k ∧ k ≠ w.heap.size) (fun _ _ _ => rfl) (fun k hk _ => by have := hg3.size; constructor <;> omega))
   have K2 := Lib.hid (k2.keep (D' := fun k => w.heap.size ≤ k ∧ k ≠ w.heap.size) (fun _ _ _ => rfl) (fun k hk _ => by have := hg3.size; constructor <;> omega))
   obtain ⟨A1, c1, rfl, -, -⟩ := k1
   obtain ⟨A2, c2, rfl, -, -⟩ := k2
   obtain ⟨x0, x1, x2, x3, x4, x5, x6⟩ := id XB4
   clear hg hR3 hg3 XB3 h1 h2 h3 h4
   go_wp2_with fail
   obtain ⟨hF, hgF, hRF, hT⟩ := finish hbw (Nat.le_refl _) hg4 hR4 XB4 k s n ls ks _ _ K1.out K2.out
   generalize (((((w4.setCell ⟨w.heap.size, 0, none⟩ (.int .i64 k)).setCell ⟨w.heap.size, 1, none⟩ (.int .i64 s)).setCell ⟨w.heap.size, 2, none⟩ (.string ⟨n.toArray⟩)).setCell ⟨w.heap.size, 3, none⟩ (.slice A1 ls.length c1)).setCell ⟨w.heap.size, 4, none⟩ (.slice A2 ks.length c2)) = w9 at hF hgF hRF hT ⊢
   obtain ⟨d0, d1, d2, d3, d4, d5, d6⟩ := hF
   refine bodyPost_ret (v := .agg #[.int .i64 k, .int .i64 s, .string ⟨n.toArray⟩, .slice A1 ls.length c1, .slice A2 ks.length c2]) (by simp [results, Tryz.results136, go_sem, d0, d1, d2, d3, d4, Ty.kind, Ty.sort, Ty.name]) rfl ?_
   refine ⟨hgF, ?_⟩
   rw [← HE.out]
   exact ⟨_, rfl, hT, hRF⟩
 | false =>
  rw [hd] at hcal
  refine hcal.mono ?_; clear hcal
  rintro e w3 ⟨rfl, hg, hR3⟩
  have hg3 := grown_trans hg2 hg
  have XB3 := XB2.grown' hg (by omega)
  have hd1 : ¬ l[q]? = some 33 := by simpa using hd
  clear hg hR2 hg2 XB2 hd
  clear w2
  go_wp2_with fail
  have hcal := is_any l b q 63 w3 hl hs.2 hR3
  rw [hqq] at hcal
  cases hd : decide (l[q]? = some 63) with
  | true =>
   rw [hd] at hcal
   refine hcal.mono ?_; clear hcal
   rintro e w4 ⟨rfl, hg, hR4⟩
   have hg4 := grown_trans hg3 hg
   have XB4 := XB3.grown' hg (by omega)
   clear hg hR3 hg3 XB3
   clear w3
   go_wp2_with fail
   have hd' : l[q]? = some 63 := by simpa using hd
   have hS4 := hSk w w4 hS hg4
   refine (h2 hd' w4 hS4 hR4).mono ?_
   rintro e w5 ⟨hg, hans⟩
   have hg5 := grown_trans hg4 hg
   have XB5 := XB4.grown' hg (by omega)
   have hX := XB4.lt
   have HE : Hid (R2 = RES) := Lib.hid (by rw [← HRES.out, if_neg hd1, if_pos hd'])
   clear HRES
   cases R2 with
   | bad q' =>
    simp only at hans
    subst hans
    refine ⟨rfl, hg5, ?_⟩
    rw [← HE.out]
   | ok t q' =>
    obtain ⟨v, rfl, hT, hR5⟩ := hans
    obtain ⟨k, s, n, ls, ks⟩ := t
    obtain ⟨lv, kv, rfl, k1, k2⟩ := hT
    simp only [Ty.kind, Ty.sort, Ty.name, Ty.labels, Ty.kids] at k1 k2 ⊢
    have K1 := Lib.hid (k1.keep (D' := fun k => w.heap.size ≤ k ∧ k ≠ w.heap.size) (fun _ _ _ => rfl) (fun k hk _ => by have := hg4.size; constructor <;> omega))
    have K2 := Lib.hid (k2.keep (D' := fun k => w.heap.size ≤ k ∧ k ≠ w.heap.size) (fun _ _ _ => rfl) (fun k hk _ => by have := hg4.size; constructor <;> omega))
    obtain ⟨A1, c1, rfl, -, -⟩ := k1
    obtain ⟨A2, c2, rfl, -, -⟩ := k2
    obtain ⟨x0, x1, x2, x3, x4, x5, x6⟩ := id XB5
    clear hg hR4 hg4 XB4 h1 h2 h3 h4
    go_wp2_with fail
    obtain ⟨hF, hgF, hRF, hT⟩ := finish hbw (Nat.le_refl _) hg5 hR5 XB5 k s n ls ks _ _ K1.out K2.out
    generalize (((((w5.setCell ⟨w.heap.size, 0, none⟩ (.int .i64 k)).setCell ⟨w.heap.size, 1, none⟩ (.int .i64 s)).setCell ⟨w.heap.size, 2, none⟩ (.string ⟨n.toArray⟩)).setCell ⟨w.heap.size, 3, none⟩ (.slice A1 ls.length c1)).setCell ⟨w.heap.size, 4, none⟩ (.slice A2 ks.length c2)) = w9 at hF hgF hRF hT ⊢
    obtain ⟨d0, d1, d2, d3, d4, d5, d6⟩ := hF
    refine bodyPost_ret (v := .agg #[.int .i64 k, .int .i64 s, .string ⟨n.toArray⟩, .slice A1 ls.length c1, .slice A2 ks.length c2]) (by simp [results, Tryz.results136, go_sem, d0, d1, d2, d3, d4, Ty.kind, Ty.sort, Ty.name]) rfl ?_
    refine ⟨hgF, ?_⟩
    rw [← HE.out]
    exact ⟨_, rfl, hT, hRF⟩
  | false =>
   rw [hd] at hcal
   refine hcal.mono ?_; clear hcal
   rintro e w4 ⟨rfl, hg, hR4⟩
   have hg4 := grown_trans hg3 hg
   have XB4 := XB3.grown' hg (by omega)
   have hd2 : ¬ l[q]? = some 63 := by simpa using hd
   clear hg hR3 hg3 XB3 hd
   clear w3
   go_wp2_with fail
   have hcal := is_any l b q 43 w4 hl hs.2 hR4
   rw [hqq] at hcal
   cases hd : decide (l[q]? = some 43) with
   | true =>
    rw [hd] at hcal
    refine hcal.mono ?_; clear hcal
    rintro e w5 ⟨rfl, hg, hR5⟩
    have hg5 := grown_trans hg4 hg
    have XB5 := XB4.grown' hg (by omega)
    clear hg hR4 hg4 XB4
    clear w4
    go_wp2_with fail
    have hd' : l[q]? = some 43 := by simpa using hd
    have hS5 := hSk w w5 hS hg5
    refine (h3 hd' w5 hS5 hR5).mono ?_
    rintro e w6 ⟨hg, hans⟩
    have hg6 := grown_trans hg5 hg
    have XB6 := XB5.grown' hg (by omega)
    have hX := XB5.lt
    have HE : Hid (R3 = RES) := Lib.hid (by rw [← HRES.out, if_neg hd1, if_neg hd2, if_pos hd'])
    clear HRES
    cases R3 with
    | bad q' =>
     simp only at hans
     subst hans
     refine ⟨rfl, hg6, ?_⟩
     rw [← HE.out]
    | ok t q' =>
     obtain ⟨v, rfl, hT, hR6⟩ := hans
     obtain ⟨k, s, n, ls, ks⟩ := t
     obtain ⟨lv, kv, rfl, k1, k2⟩ := hT
     simp only [Ty.kind, Ty.sort, Ty.name, Ty.labels, Ty.kids] at k1 k2 ⊢
     have K1 := Lib.hid (k1.keep (D' := fun k => w.heap.size ≤ k ∧ k ≠ w.heap.size) (fun _ _ _ => rfl) (fun k hk _ => by have := hg5.size; constructor <;> omega))
     have K2 := Lib.hid (k2.keep (D' := fun k => w.heap.size ≤ k ∧ k ≠ w.heap.size) (fun _ _ _ => rfl) (fun k hk _ => by have := hg5.size; constructor <;> omega))
     obtain ⟨A1, c1, rfl, -, -⟩ := k1
     obtain ⟨A2, c2, rfl, -, -⟩ := k2
     obtain ⟨x0, x1, x2, x3, x4, x5, x6⟩ := id XB6
     clear hg hR5 hg5 XB5 h1 h2 h3 h4
     go_wp2_with fail
     obtain ⟨hF, hgF, hRF, hT⟩ := finish hbw (Nat.le_refl _) hg6 hR6 XB6 k s n ls ks _ _ K1.out K2.out
     generalize (((((w6.setCell ⟨w.heap.size, 0, none⟩ (.int .i64 k)).setCell ⟨w.heap.size, 1, none⟩ (.int .i64 s)).setCell ⟨w.heap.size, 2, none⟩ (.string ⟨n.toArray⟩)).setCell ⟨w.heap.size, 3, none⟩ (.slice A1 ls.length c1)).setCell ⟨w.heap.size, 4, none⟩ (.slice A2 ks.length c2)) = w9 at hF hgF hRF hT ⊢
     obtain ⟨d0, d1, d2, d3, d4, d5, d6⟩ := hF
     refine bodyPost_ret (v := .agg #[.int .i64 k, .int .i64 s, .string ⟨n.toArray⟩, .slice A1 ls.length c1, .slice A2 ks.length c2]) (by simp [results, Tryz.results136, go_sem, d0, d1, d2, d3, d4, Ty.kind, Ty.sort, Ty.name]) rfl ?_
     refine ⟨hgF, ?_⟩
     rw [← HE.out]
     exact ⟨_, rfl, hT, hRF⟩
   | false =>
    rw [hd] at hcal
    refine hcal.mono ?_; clear hcal
    rintro e w5 ⟨rfl, hg, hR5⟩
    have hg5 := grown_trans hg4 hg
    have XB5 := XB4.grown' hg (by omega)
    have hd3 : ¬ l[q]? = some 43 := by simpa using hd
    clear hg hR4 hg4 XB4 hd
    clear w4
    go_wp2_with fail
    have hcal := is_any l b q 38 w5 hl hs.2 hR5
    rw [hqq] at hcal
    cases hd : decide (l[q]? = some 38) with
    | true =>
     rw [hd] at hcal
     refine hcal.mono ?_; clear hcal
     rintro e w6 ⟨rfl, hg, hR6⟩
     have hg6 := grown_trans hg5 hg
     have XB6 := XB5.grown' hg (by omega)
     clear hg hR5 hg5 XB5
     clear w5
     go_wp2_with fail
     have hd' : l[q]? = some 38 := by simpa using hd
     have hS6 := hSk w w6 hS hg6
     refine (h4 hd' w6 hS6 hR6).mono ?_
     rintro e w7 ⟨hg, hans⟩
     have hg7 := grown_trans hg6 hg
     have XB7 := XB6.grown' hg (by omega)
     have hX := XB6.lt
     have HE : Hid (R4 = RES) := Lib.hid (by rw [← HRES.out, if_neg hd1, if_neg hd2, if_neg hd3, if_pos hd'])
     clear HRES
     cases R4 with
     | bad q' =>
      simp only at hans
      subst hans
      refine ⟨rfl, hg7, ?_⟩
      rw [← HE.out]
     | ok t q' =>
      obtain ⟨v, rfl, hT, hR7⟩ := hans
      obtain ⟨k, s, n, ls, ks⟩ := t
      obtain ⟨lv, kv, rfl, k1, k2⟩ := hT
      simp only [Ty.kind, Ty.sort, Ty.name, Ty.labels, Ty.kids] at k1 k2 ⊢
      have K1 := Lib.hid (k1.keep (D' := fun k => w.heap.size ≤ k ∧ k ≠ w.heap.size) (fun _ _ _ => rfl) (fun k hk _ => by have := hg6.size; constructor <;> omega))
      have K2 := Lib.hid (k2.keep (D' := fun k => w.heap.size ≤ k ∧ k ≠ w.heap.size) (fun _ _ _ => rfl) (fun k hk _ => by have := hg6.size; constructor <;> omega))
      obtain ⟨A1, c1, rfl, -, -⟩ := k1
      obtain ⟨A2, c2, rfl, -, -⟩ := k2
      obtain ⟨x0, x1, x2, x3, x4, x5, x6⟩ := id XB7
      clear hg hR6 hg6 XB6 h1 h2 h3 h4
      go_wp2_with fail
      obtain ⟨hF, hgF, hRF, hT⟩ := finish hbw (Nat.le_refl _) hg7 hR7 XB7 k s n ls ks _ _ K1.out K2.out
      generalize (((((w7.setCell ⟨w.heap.size, 0, none⟩ (.int .i64 k)).setCell ⟨w.heap.size, 1, none⟩ (.int .i64 s)).setCell ⟨w.heap.size, 2, none⟩ (.string ⟨n.toArray⟩)).setCell ⟨w.heap.size, 3, none⟩ (.slice A1 ls.length c1)).setCell ⟨w.heap.size, 4, none⟩ (.slice A2 ks.length c2)) = w9 at hF hgF hRF hT ⊢
      obtain ⟨d0, d1, d2, d3, d4, d5, d6⟩ := hF
      refine bodyPost_ret (v := .agg #[.int .i64 k, .int .i64 s, .string ⟨n.toArray⟩, .slice A1 ls.length c1, .slice A2 ks.length c2]) (by simp [results, Tryz.results136, go_sem, d0, d1, d2, d3, d4, Ty.kind, Ty.sort, Ty.name]) rfl ?_
      refine ⟨hgF, ?_⟩
      rw [← HE.out]
      exact ⟨_, rfl, hT, hRF⟩
    | false =>
     rw [hd] at hcal
     refine hcal.mono ?_; clear hcal
     rintro e w6 ⟨rfl, hg, hR6⟩
     have hg6 := grown_trans hg5 hg
     have XB6 := XB5.grown' hg (by omega)
     have hd4 : ¬ l[q]? = some 38 := by simpa using hd
     clear hg hR5 hg5 XB5 hd
     clear w5
     go_wp2_with fail
     refine (fail_any l b q w6 hR6).mono ?_
     rintro e w7 ⟨rfl, hg7⟩
     refine ⟨rfl, ?_⟩
     rw [← HRES.out, if_neg hd1, if_neg hd2, if_neg hd3, if_neg hd4]
     exact ⟨grown_trans hg6 hg7, rfl⟩
end
end Go.Proofs.YtpidjanngbaiiaaGreatDoor
namespace Go.Proofs.YtpidjanngbaiiaaGreatDoor
open Go.RowKit Go.Proofs

set_option maxRecDepth 100000
theorem ixOf_ge {W : Str} (h : ¬ sortIx W = 0) : ¬ ixOf W < 1 := by
 have := sortIx_nonneg W
 rw [ixOf_eq h]
 omega
theorem new_val (w : World) (t : Ty) (lv kv : Value) (E : TypeId) : VBox (w.alloc (.cells #[.int .i64 t.kind, .int .i64 t.sort, .string ⟨t.name.toArray⟩, lv, kv] E)) w.heap.size t lv kv :=
 ⟨by simp [go_sem], by simp [go_sem], by simp [go_sem], by simp [go_sem], by simp [go_sem], fun j => by simp [go_sem], by simp⟩

section
variable (l : Str) (b p : Nat) (w : World) (hl : l.length ≤ 2000) (hp : p + 1 ≤ l.length) (hR : RBox w b l p) (S : World → Prop) (hSk : ∀ w w' : World, S w → w.grownBy w' (some b) → S w') (hSo : ∀ w : World, S w → Sorts w) (hS : S w) (n : Nat)
 (ih : ∀ (p : Nat) (w : World), p ≤ l.length → l.length < n + p → S w → RBox w b l p → Calls Tryz.prog 136 #[.pointer (some ⟨b, 0, none⟩)] w (Ans w b l (rdOne l n p))) (hn : l.length < n + (p + 1))
include hl hp hR hSk hSo hS ih hn
set_option maxHeartbeats 4000000 in
theorem passed_any (add : Nat) (ha : add ≤ 1) : Calls Tryz.prog 167 #[.pointer (some ⟨b, 0, none⟩), .int .i64 ((2 : Int) + add), .int .i64 ((4 : Int) + add)] w (Ans w b l (rdPassed l (rdOne l n) add (p + 1))) := by
 obtain ⟨r0, r1, r2, r3⟩ := id hR
 have hbw := hR.lt
 have hs := sk_le hp
 have hw := wd_le hs.2
 obtain ⟨RES, hRES⟩ : ∃ r, rdPassed l (rdOne l n) add (p + 1) = r := ⟨_, rfl⟩
 rw [hRES]
 have HRES := Lib.hid hRES; clear hRES
 go_enter Tryz.func167, Tryz.ntmps167
 go_wp2_with fail
 have hg1 := grown_at w b 1 (.int .i64 ((p : Int) + 1))
 have hR1 : RBox (w.setCell ⟨b, 1, none⟩ (.int .i64 ((p : Int) + 1))) b l (p + 1) := by simpa using hR.set (p + 1)
 have hz1 : (w.setCell ⟨b, 1, none⟩ (.int .i64 ((p : Int) + 1))).heap.size = w.heap.size := by simp only [World.size_setCell]
 generalize w.setCell ⟨b, 1, none⟩ (.int .i64 ((p : Int) + 1)) = w1 at hg1 hR1 hz1 ⊢
 have XB := new_box w1 30
 rw [hz1] at XB
 have hb2 : Below w1.heap.size w1 (w1.alloc (.cells #[.int .i64 0, .int .i64 0, .string ⟨#[]⟩, .slice none 0 0, .slice none 0 0] 30)) := (Below.refl _ _).alloc (Nat.le_refl _) _
 have hR2 := hR1.keep hb2
 have hg2 := grown_belowB hg1 hb2
 generalize w1.alloc (.cells #[.int .i64 0, .int .i64 0, .string ⟨#[]⟩, .slice none 0 0, .slice none 0 0] 30) = w2 at XB hR2 hg2 ⊢
 clear hb2 hR1 hg1 hz1 r0 r1 r2 r3
 clear w1
 have hne1 : ¬ w.heap.size = b := by omega
 have hne2 : ¬ b = w.heap.size := by omega
 have hcal := is_any l b (p + 1) 123 w2 hl hp hR2
 by_cases h123 : l[sk l (p + 1)]? = some 123
 ·rw [decide_eq_true h123] at hcal
  have hlt := at_lt h123
  have H123 := Lib.hid h123; clear h123
  have hres : (rdOne l n (sk l (p + 1) + 1)).seq (fun t p1 => (rdSign l 125 p1).seq fun _ p2 => (rdSign l 46 p2).seq fun _ p3 => (rdOne l n p3).seq fun u p4 => .ok (.mk (4 + add) 0 [] [] [t, u]) p4) = RES := by
   rw [← HRES.out, rdPassed, if_pos H123.out]
  have HR := Lib.hid hres; clear hres
  clear H123 HRES hw
  generalize sk l (p + 1) = q at hs hlt hcal HR
  refine hcal.mono ?_; clear hcal
  rintro e w3 ⟨rfl, hg, hR3⟩
  have hg3 := grown_trans hg2 hg
  have XB3 := XB.grown' hg (by omega)
  clear hg hR2 hg2 XB
  clear w2
  obtain ⟨r0, r1, r2, r3⟩ := id hR3
  obtain ⟨x0, x1, x2, x3, x4, x5, x6⟩ := id XB3
  go_wp2_with fail
  obtain ⟨hg4, hR4, XB4⟩ := go_on hg3 hR3 XB3 hne2 1
  rw [show ((1 : Nat) : Int) = 1 from rfl] at hg4 hR4 XB4
  generalize w3.setCell ⟨b, 1, none⟩ (.int .i64 ((q : Int) + 1)) = w4 at hg4 hR4 XB4 ⊢
  clear hg3 hR3 XB3 r0 r1 r2 r3 x0 x1 x2 x3 x4 x5 x6
  clear w3
  have htook := rdOne_took (l := l) n (q + 1) (by omega)
  refine (ih (q + 1) w4 (by omega) (by omega) (hSk w w4 hS hg4) hR4).mono ?_
  rintro e w5 ⟨hg, hans⟩
  have hg5 := grown_trans hg4 hg
  have XB5 := XB4.grown' hg (by omega)
  have hsz4 : w.heap.size < w4.heap.size := XB4.lt
  have hsz45 := hg.size
  cases hr : rdOne l n (q + 1) with
  | bad q' =>
   rw [hr] at hans
   simp only at hans
   subst hans
   have e1 : Rd.bad q' = RES := by rw [← HR.out, hr]; rfl
   exact ⟨rfl, hg5, by rw [← e1]⟩
  | ok t p1 =>
  rw [hr] at hans htook
  obtain ⟨v, rfl, hT, hR5⟩ := hans
  obtain ⟨ht1, ht2⟩ : q + 1 ≤ p1 ∧ p1 ≤ l.length := htook
  have HR1 : Hid ((rdSign l 125 p1).seq (fun _ p2 => (rdSign l 46 p2).seq fun _ p3 => (rdOne l n p3).seq fun u p4 => .ok (.mk (4 + add) 0 [] [] [t, u]) p4) = RES) := Lib.hid (by rw [← HR.out, hr]; rfl)
  clear hg hR4 hg4 XB4 HR hr
  obtain ⟨lv, kv, rfl, k1, k2⟩ := hT
  have K1 := Lib.hid k1; have K2 := Lib.hid k2
  obtain ⟨A1, c1, rfl, -, -⟩ := k1
  obtain ⟨A2, c2, rfl, -, -⟩ := k2
  go_wp2_with fail
  have TB6 := new_val w5 t (.slice A1 t.labels.length c1) (.slice A2 t.kids.length c2) 30
  have hb6 : Below w5.heap.size w5 (w5.alloc (.cells #[.int .i64 t.kind, .int .i64 t.sort, .string ⟨t.name.toArray⟩, .slice A1 t.labels.length c1, .slice A2 t.kids.length c2] 30)) := (Below.refl _ _).alloc (Nat.le_refl _) _
  have hR6 := hR5.keep hb6
  have hg6 := grown_belowB hg5 hb6
  have XB6 := XB5.keep hb6 XB5.lt
  replace K1 := Lib.hid (K1.out.keep (D' := fun k => w4.heap.size ≤ k) (Same.below hb6) (fun _ h _ => h))
  replace K2 := Lib.hid (K2.out.keep (D' := fun k => w4.heap.size ≤ k) (Same.below hb6) (fun _ h _ => h))
  have hb5 : b < w5.heap.size := hR5.lt
  generalize w5.alloc (.cells #[.int .i64 t.kind, .int .i64 t.sort, .string ⟨t.name.toArray⟩, .slice A1 t.labels.length c1, .slice A2 t.kids.length c2] 30) = w6 at TB6 hR6 hg6 XB6 K1 K2 ⊢
  clear hb6 hR5 hg5 XB5
  generalize w5.heap.size = T at TB6 hsz45 hb5 ⊢
  clear w5
  by_cases h125 : l[sk l p1]? = some 125
  case neg =>
   refine (sign_bad l b p1 125 w6 hl ht2 hR6 h125).mono ?_
   rintro e w7 ⟨rfl, hg7⟩
   have e1 : Rd.bad (sk l p1) = RES := (sign_seq_bad h125 _).symm.trans HR1.out
   exact ⟨rfl, grown_trans hg6 hg7, by rw [← e1]⟩
  case pos =>
  have hs1 := sk_le ht2
  have hlt1 := at_lt h125
  have HR2 : Hid ((rdSign l 46 (sk l p1 + 1)).seq (fun _ p3 => (rdOne l n p3).seq fun u p4 => .ok (.mk (4 + add) 0 [] [] [t, u]) p4) = RES) := Lib.hid ((sign_seq_ok h125 _).symm.trans HR1.out)
  refine (sign_ok l b p1 125 w6 hl ht2 hR6 h125).mono ?_
  rintro e w7 ⟨rfl, hg, hR7⟩
  have hg7 := grown_trans hg6 hg
  have XB7 := XB6.grown' hg (by omega)
  have TB7 := TB6.grown' hg (by omega)
  have hs67 : Same (· ≠ b) w6 w7 := Same.grown hg (fun k hk e => hk (by injection e))
  replace K1 := Lib.hid (K1.out.keep (D' := fun k => w4.heap.size ≤ k) (fun k hk hl => hs67 k (by omega) hl) (fun _ h _ => h))
  replace K2 := Lib.hid (K2.out.keep (D' := fun k => w4.heap.size ≤ k) (fun k hk hl => hs67 k (by omega) hl) (fun _ h _ => h))
  clear hg hR6 hg6 XB6 TB6 hs67 HR1 h125
  clear w6
  generalize sk l p1 = q1 at hs1 hlt1 hR7 HR2
  go_wp2_with fail
  by_cases h46 : l[sk l (q1 + 1)]? = some 46
  case neg =>
   refine (sign_bad l b (q1 + 1) 46 w7 hl (by omega) hR7 h46).mono ?_
   rintro e w8 ⟨rfl, hg8⟩
   have e1 : Rd.bad (sk l (q1 + 1)) = RES := (sign_seq_bad h46 _).symm.trans HR2.out
   exact ⟨rfl, grown_trans hg7 hg8, by rw [← e1]⟩
  case pos =>
  have hs2 := sk_le (l := l) (p := q1 + 1) (by omega)
  have hlt2 := at_lt h46
  have HR3 : Hid ((rdOne l n (sk l (q1 + 1) + 1)).seq (fun u p4 => .ok (.mk (4 + add) 0 [] [] [t, u]) p4) = RES) := Lib.hid ((sign_seq_ok h46 _).symm.trans HR2.out)
  refine (sign_ok l b (q1 + 1) 46 w7 hl (by omega) hR7 h46).mono ?_
  rintro e w8 ⟨rfl, hg, hR8⟩
  have hg8 := grown_trans hg7 hg
  have XB8 := XB7.grown' hg (by omega)
  have TB8 := TB7.grown' hg (by omega)
  have hs78 : Same (· ≠ b) w7 w8 := Same.grown hg (fun k hk e => hk (by injection e))
  replace K1 := Lib.hid (K1.out.keep (D' := fun k => w4.heap.size ≤ k) (fun k hk hl => hs78 k (by omega) hl) (fun _ h _ => h))
  replace K2 := Lib.hid (K2.out.keep (D' := fun k => w4.heap.size ≤ k) (fun k hk hl => hs78 k (by omega) hl) (fun _ h _ => h))
  clear hg hR7 hg7 XB7 TB7 hs78 HR2 h46
  clear w7
  generalize sk l (q1 + 1) = q2 at hs2 hlt2 hR8 HR3
  go_wp2_with fail
  have HSd : Hid ((fun w' : World => w'.cell? ⟨T, 0, none⟩ = some (.int .i64 t.kind) ∧ w'.cell? ⟨T, 1, none⟩ = some (.int .i64 t.sort) ∧ w'.cell? ⟨T, 2, none⟩ = some (.string ⟨t.name.toArray⟩) ∧ w'.cell? ⟨T, 3, none⟩ = some (.slice A1 t.labels.length c1) ∧ w'.cell? ⟨T, 4, none⟩ = some (.slice A2 t.kids.length c2)) w8.drew) := Lib.hid ⟨TB8.c0, TB8.c1, TB8.c2, TB8.c3, TB8.c4⟩
  refine wp_region_T 6 (fun w' : World => w'.cell? ⟨T, 0, none⟩ = some (.int .i64 t.kind) ∧ w'.cell? ⟨T, 1, none⟩ = some (.int .i64 t.sort) ∧ w'.cell? ⟨T, 2, none⟩ = some (.string ⟨t.name.toArray⟩) ∧ w'.cell? ⟨T, 3, none⟩ = some (.slice A1 t.labels.length c1) ∧ w'.cell? ⟨T, 4, none⟩ = some (.slice A2 t.kids.length c2)) (by kernel_rfl) ?_
  refine zT 0 ?_ rfl (Or.inl ⟨by rfl, ?_⟩) HSd.out ?_
  rotate_left
  ·(intro wq hSw; obtain ⟨_,_,_,_,_⟩ := hSw; go_simp; all_goals (first | (with_reducible rfl) | (rw [zI])))
  simp only [zA, zB, zC, Act.put, zD, zE, zF]
  refine zT 1 ?_ rfl (Or.inl ⟨by rfl, ?_⟩) HSd.out ?_
  rotate_left
  ·(intro wq hSw; obtain ⟨_,_,_,_,_⟩ := hSw; go_simp; all_goals (first | (with_reducible rfl) | (rw [zI])))
  simp only [zA, zB, zC, Act.put, zD, zE, zF]
  refine zT 2 ?_ rfl (Or.inl ⟨by rfl, ?_⟩) HSd.out ?_
  rotate_left
  ·(intro wq hSw; obtain ⟨_,_,_,_,_⟩ := hSw; go_simp; all_goals (first | (with_reducible rfl) | (rw [zI])))
  simp only [zA, zB, zC, Act.put, zD, zE, zF]
  refine zO 3 fun K hK => ?_
  go_simp
  have htook2 := rdOne_took (l := l) n (q2 + 1) (by omega)
  have hgd : w.grownBy w8.drew (some b) := grown_drew hg8
  have hRd : RBox w8.drew b l (q2 + 1) := ⟨hR8.c0, hR8.c1, hR8.fr, hR8.lt⟩
  refine (ih (q2 + 1) w8.drew (by omega) (by omega) (hSk w w8.drew hS hgd) hRd).mono ?_
  rintro e w9 ⟨hg, hans⟩
  have hg9 := grown_trans hgd hg
  have hg' : w8.grownBy w9 (some b) := drew_grown hg
  have XB9 := XB8.grown' hg' (by omega)
  have TB9 := TB8.grown' hg' (by omega)
  have hs89 : Same (· ≠ b) w8 w9 := Same.grown hg' (fun k hk e => hk (by injection e))
  replace K1 := Lib.hid (K1.out.keep (D' := fun k => w4.heap.size ≤ k) (fun k hk hl => hs89 k (by omega) hl) (fun _ h _ => h))
  replace K2 := Lib.hid (K2.out.keep (D' := fun k => w4.heap.size ≤ k) (fun k hk hl => hs89 k (by omega) hl) (fun _ h _ => h))
  have hz8 : w4.heap.size ≤ w8.heap.size := by have := TB8.lt; omega
  have hz89 := hg'.size
  cases hr : rdOne l n (q2 + 1) with
  | bad q' =>
   rw [hr] at hans
   simp only at hans
   subst hans
   have e1 : Rd.bad q' = RES := by rw [← HR3.out, hr]; rfl
   exact ⟨rfl, hg9, by rw [← e1]⟩
  | ok u p4 =>
  rw [hr] at hans htook2
  obtain ⟨v, rfl, hU, hR9⟩ := hans
  have HR4 : Hid (.ok (.mk (4 + add) 0 [] [] [t, u]) p4 = RES) := Lib.hid (by rw [← HR3.out, hr]; rfl)
  clear hg hg' hR8 hRd hgd hg8 XB8 TB8 hs89 HR3 hr htook2
  obtain ⟨lv, kv, rfl, k3, k4⟩ := hU
  have K3 := Lib.hid (k3.keep (D' := fun k => w4.heap.size ≤ k) (fun _ _ _ => rfl) (fun k hk _ => by have : w8.drew.heap.size ≤ k := hk; have e : w8.drew.heap.size = w8.heap.size := rfl; omega))
  have K4 := Lib.hid (k4.keep (D' := fun k => w4.heap.size ≤ k) (fun _ _ _ => rfl) (fun k hk _ => by have : w8.drew.heap.size ≤ k := hk; have e : w8.drew.heap.size = w8.heap.size := rfl; omega))
  obtain ⟨A3, c3, rfl, -, -⟩ := k3
  obtain ⟨A4, c4, rfl, -, -⟩ := k4
  refine hK.out _ _ (fun _ => ⟨TB9.c0, TB9.c1, TB9.c2, TB9.c3, TB9.c4⟩) ?_
  clear hK K
  try simp only [zA, zB, zC, Act.put, zD, zE, zF]
  refine zO 4 fun K hK => ?_
  go_simp
  have hb10 : Below w9.heap.size w9 (w9.alloc (.cells #[.int .i64 t.kind, .int .i64 t.sort, .string ⟨t.name.toArray⟩, .slice A1 t.labels.length c1, .slice A2 t.kids.length c2, .int .i64 u.kind, .int .i64 u.sort, .string ⟨u.name.toArray⟩, .slice A3 u.labels.length c3, .slice A4 u.kids.length c4] 30)) := (Below.refl _ _).alloc (Nat.le_refl _) _
  have TB10 := TB9.keep hb10 TB9.lt
  refine hK.out _ _ (fun _ => ⟨TB10.c0, TB10.c1, TB10.c2, TB10.c3, TB10.c4⟩) ?_
  clear hK K TB10 hb10
  try simp only [zA, zB, zC, Act.put, zD, zE, zF]
  refine zO 5 fun K hK => ?_
  go_simp
  have hb10 : Below w9.heap.size w9 (w9.alloc (.cells #[.int .i64 t.kind, .int .i64 t.sort, .string ⟨t.name.toArray⟩, .slice A1 t.labels.length c1, .slice A2 t.kids.length c2, .int .i64 u.kind, .int .i64 u.sort, .string ⟨u.name.toArray⟩, .slice A3 u.labels.length c3, .slice A4 u.kids.length c4] 30)) := (Below.refl _ _).alloc (Nat.le_refl _) _
  have TB10 := TB9.keep hb10 TB9.lt
  refine hK.out _ _ (fun _ => ⟨TB10.c0, TB10.c1, TB10.c2, TB10.c3, TB10.c4⟩) ?_
  clear hK K TB10
  try simp only [zA, zB, zC, Act.put, zD, zE, zF]
  have hX9 := XB9.lt
  obtain ⟨x0, x1, x2, x3, x4, x5, x6⟩ := id XB9
  refine zO 6 fun K hK => ?_
  go_simp
  refine hK.out _ _ (fun h => absurd h (by decide)) ?_
  clear hK K
  try simp only [zA, zB, zC, Act.put, zD, zE, zF]
  refine wpT_done (by kernel_rfl) ?_
  go_wp2_with fail
  obtain ⟨hF, hgF, hRF, hT⟩ := finishK hbw (Nat.le_refl _) (m := w4.heap.size) (by omega) (by omega) hg9 hR9 XB9 (4 + add) 0 [] _ [t, u] (.cons t _ _ _ [u] K1.out K2.out (.cons u _ _ [] [] K3.out K4.out .nil)) 30
  simp only [List.length_cons, List.length_nil] at hF hgF hRF hT
  generalize ((((((w9.setCell ⟨w.heap.size, 0, none⟩ (.int .i64 (4 + (add : Int)))).setCell ⟨w.heap.size, 1, none⟩ (.int .i64 0)).setCell ⟨w.heap.size, 2, none⟩ (.string ⟨([] : Str).toArray⟩)).setCell ⟨w.heap.size, 3, none⟩ (.slice none 0 0)).setCell ⟨w.heap.size, 4, none⟩ (.slice (some ⟨w9.heap.size, 0, none⟩) (0 + 1 + 1) (0 + 1 + 1))).alloc _) = w11 at hF hgF hRF hT ⊢
  obtain ⟨d0, d1, d2, d3, d4, d5, d6⟩ := hF
  refine bodyPost_ret (v := .agg #[.int .i64 (4 + (add : Int)), .int .i64 0, .string ⟨([] : Str).toArray⟩, .slice none 0 0, .slice (some ⟨w9.heap.size, 0, none⟩) 2 2]) (by simp [results, Tryz.results167, go_sem, d0, d1, d2, d3, d4, Ty.kind, Ty.sort, Ty.name]) rfl ?_
  refine ⟨hgF, ?_⟩
  rw [← HR4.out]
  exact ⟨_, rfl, hT, hRF⟩
 ·have h123' : decide (l[sk l (p + 1)]? = some 123) = false := by simpa using h123
  rw [h123'] at hcal
  refine hcal.mono ?_; clear hcal
  rintro e w3 ⟨rfl, hg, hR3⟩
  have hg3 := grown_trans hg2 hg
  have XB3 := XB.grown' hg (by omega)
  clear hg hR2 hg2 XB
  clear w2
  have hres : (if sortIx (wd l (sk l (p + 1))) = 0 then .bad (sk l (p + 1)) else (rdSign l 46 (sk l (p + 1) + (wd l (sk l (p + 1))).length)).seq fun _ p2 => (rdOne l n p2).seq fun t p3 => .ok (.mk (2 + add) (sortIx (wd l (sk l (p + 1)))) [] [] [t]) p3 : Rd Ty) = RES := by
   rw [← HRES.out, rdPassed, if_neg h123]
  have HR := Lib.hid hres; clear hres
  clear HRES h123 h123'
  have hqq := sk_sk l (p + 1)
  have hcal := word_any l b (sk l (p + 1)) w3 hl hs.2 hR3
  rw [hqq] at hcal
  generalize sk l (p + 1) = q at hs hw hcal HR hR3
  generalize wd l q = W at hw hcal HR
  go_wp2_with fail
  refine hcal.mono ?_; clear hcal
  rintro e w4 ⟨rfl, hg, hR4⟩
  have hg4 := grown_trans hg3 hg
  have XB4 := XB3.grown' hg (by omega)
  clear hg hR3 hg3 XB3
  clear w3
  obtain ⟨gb, go, gc, eg0, hgc, hrow⟩ := hSo w4 (hSk w w4 hS hg4)
  have hidx := index_sorts (gc := gc) hrow W
  obtain ⟨X, hX⟩ : ∃ x, ixOf W = x := ⟨_, rfl⟩
  rw [hX] at hidx
  have HX := Lib.hid hX; clear hX
  clear hrow
  go_wp2_with fail
  refine hidx.mono ?_; clear hidx
  rintro e w5 ⟨rfl, hw5⟩
  rw [hw5]
  clear hw5
  clear w5
  by_cases h0 : sortIx W = 0
  case pos =>
   have hX1 : X < 1 := by rw [← HX.out]; exact ixOf_lt h0
   have e1 : Rd.bad q = RES := by rw [← HR.out, if_pos h0]
   have H1 := Lib.hid e1
   clear h0 e1 HR HX
   go_wp2_with fail
   refine (fail_any l b q w4 hR4).mono ?_
   rintro e w6 ⟨rfl, hg6⟩
   exact ⟨rfl, grown_trans hg4 hg6, by rw [← H1.out]⟩
  case neg =>
  have hX1 : ¬ X < 1 := by rw [← HX.out]; exact ixOf_ge h0
  have hXs : X = sortIx W := by rw [← HX.out]; exact ixOf_eq h0
  have HR1 : Hid ((rdSign l 46 (q + W.length)).seq (fun _ p2 => (rdOne l n p2).seq fun t p3 => .ok (.mk (2 + add) X [] [] [t]) p3) = RES) := Lib.hid (by rw [hXs, ← HR.out, if_neg h0])
  clear HR HX h0 hXs eg0
  obtain ⟨r0, r1, r2, r3⟩ := id hR4
  go_wp2_with fail
  obtain ⟨hg5, hR5, XB5⟩ := go_on hg4 hR4 XB4 hne2 W.length
  generalize w4.setCell ⟨b, 1, none⟩ (.int .i64 ((q : Int) + W.length)) = w5 at hg5 hR5 XB5 ⊢
  clear r0 r1 r2 r3 hg4 hR4 XB4
  clear w4
  by_cases h46 : l[sk l (q + W.length)]? = some 46
  case neg =>
   refine (sign_bad l b (q + W.length) 46 w5 hl hw hR5 h46).mono ?_
   rintro e w6 ⟨rfl, hg6⟩
   have e1 : Rd.bad (sk l (q + W.length)) = RES := (sign_seq_bad h46 _).symm.trans HR1.out
   exact ⟨rfl, grown_trans hg5 hg6, by rw [← e1]⟩
  case pos =>
  have hs2 := sk_le hw
  have hlt2 := at_lt h46
  have HR3 : Hid ((rdOne l n (sk l (q + W.length) + 1)).seq (fun t p3 => .ok (.mk (2 + add) X [] [] [t]) p3) = RES) := Lib.hid ((sign_seq_ok h46 _).symm.trans HR1.out)
  refine (sign_ok l b (q + W.length) 46 w5 hl hw hR5 h46).mono ?_
  rintro e w6 ⟨rfl, hg, hR6⟩
  have hg6 := grown_trans hg5 hg
  have XB6 := XB5.grown' hg (by omega)
  clear hg hR5 hg5 XB5 HR1 h46
  clear w5
  generalize sk l (q + W.length) = q2 at hs2 hlt2 hR6 HR3
  go_wp2_with fail
  have htook2 := rdOne_took (l := l) n (q2 + 1) (by omega)
  refine (ih (q2 + 1) w6 (by omega) (by omega) (hSk w w6 hS hg6) hR6).mono ?_
  rintro e w7 ⟨hg, hans⟩
  have hg7 := grown_trans hg6 hg
  have XB7 := XB6.grown' hg (by omega)
  have hlt6 := XB6.lt
  have hz67 := hg.size
  cases hr : rdOne l n (q2 + 1) with
  | bad q' =>
   rw [hr] at hans
   simp only at hans
   subst hans
   have e1 : Rd.bad q' = RES := by rw [← HR3.out, hr]; rfl
   exact ⟨rfl, hg7, by rw [← e1]⟩
  | ok t p3 =>
  rw [hr] at hans
  obtain ⟨v, rfl, hT, hR7⟩ := hans
  have HR4 : Hid (.ok (.mk (2 + add) X [] [] [t]) p3 = RES) := Lib.hid (by rw [← HR3.out, hr]; rfl)
  clear hg hR6 hg6 XB6 HR3 hr htook2
  obtain ⟨lv, kv, rfl, k1, k2⟩ := hT
  have K1 := Lib.hid k1; have K2 := Lib.hid k2
  obtain ⟨A1, c1, rfl, -, -⟩ := k1
  obtain ⟨A2, c2, rfl, -, -⟩ := k2
  obtain ⟨x0, x1, x2, x3, x4, x5, x6⟩ := id XB7
  go_wp2_with fail
  obtain ⟨hF, hgF, hRF, hT⟩ := finishK hbw (Nat.le_refl _) (m := w6.heap.size) hlt6 hz67 hg7 hR7 XB7 (2 + add) X [] _ [t] (.cons t _ _ [] [] K1.out K2.out .nil) 30
  simp only [List.length_cons, List.length_nil] at hF hgF hRF hT
  generalize ((((((w7.setCell ⟨w.heap.size, 0, none⟩ (.int .i64 (2 + (add : Int)))).setCell ⟨w.heap.size, 1, none⟩ (.int .i64 X)).setCell ⟨w.heap.size, 2, none⟩ (.string ⟨([] : Str).toArray⟩)).setCell ⟨w.heap.size, 3, none⟩ (.slice none 0 0)).setCell ⟨w.heap.size, 4, none⟩ (.slice (some ⟨w7.heap.size, 0, none⟩) (0 + 1) (0 + 1))).alloc _) = w11 at hF hgF hRF hT ⊢
  obtain ⟨d0, d1, d2, d3, d4, d5, d6⟩ := hF
  refine bodyPost_ret (v := .agg #[.int .i64 (2 + (add : Int)), .int .i64 X, .string ⟨([] : Str).toArray⟩, .slice none 0 0, .slice (some ⟨w7.heap.size, 0, none⟩) 1 1]) (by simp [results, Tryz.results167, go_sem, d0, d1, d2, d3, d4, Ty.kind, Ty.sort, Ty.name]) rfl ?_
  refine ⟨hgF, ?_⟩
  rw [← HR4.out]
  exact ⟨_, rfl, hT, hRF⟩
end
end Go.Proofs.YtpidjanngbaiiaaGreatDoor
namespace Go.Proofs.YtpidjanngbaiiaaGreatDoor
open Go.RowKit Go.Proofs

set_option maxRecDepth 100000
def AnsR (w : World) (b : Nat) (l : Str) (r : Ty × St) (e : Ending) (w' : World) : Prop := w.grownBy w' (some b) ∧ ∃ v, e = .returned v ∧ TyD (fun k => w.heap.size ≤ k) w' v r.1 ∧ SBox w' b l r.2
theorem finishS {w w7 : World} {b X : Nat} {l : Str} {q : St} {t0 : Ty} {lv0 kv0 : Value} (hb : b < w.heap.size) (hX : w.heap.size ≤ X) (hg : w.grownBy w7 (some b)) (hR : SBox w7 b l q) (XB : VBox w7 X t0 lv0 kv0) (k s : Int) (n : Str) (ls : List Str) (ks : List Ty) (lv kv : Value)
  (h1 : StrsD (fun k => w.heap.size ≤ k ∧ k ≠ X) w7 lv ls) (h2 : TysD (fun k => w.heap.size ≤ k ∧ k ≠ X) w7 kv ks) :
  VBox (((((w7.setCell ⟨X, 0, none⟩ (.int .i64 k)).setCell ⟨X, 1, none⟩ (.int .i64 s)).setCell ⟨X, 2, none⟩ (.string ⟨n.toArray⟩)).setCell ⟨X, 3, none⟩ lv).setCell ⟨X, 4, none⟩ kv) X (.mk k s n ls ks) lv kv ∧ w.grownBy (((((w7.setCell ⟨X, 0, none⟩ (.int .i64 k)).setCell ⟨X, 1, none⟩ (.int .i64 s)).setCell ⟨X, 2, none⟩ (.string ⟨n.toArray⟩)).setCell ⟨X, 3, none⟩ lv).setCell ⟨X, 4, none⟩ kv) (some b) ∧ SBox (((((w7.setCell ⟨X, 0, none⟩ (.int .i64 k)).setCell ⟨X, 1, none⟩ (.int .i64 s)).setCell ⟨X, 2, none⟩ (.string ⟨n.toArray⟩)).setCell ⟨X, 3, none⟩ lv).setCell ⟨X, 4, none⟩ kv) b l q ∧ TyD (fun k => w.heap.size ≤ k) (((((w7.setCell ⟨X, 0, none⟩ (.int .i64 k)).setCell ⟨X, 1, none⟩ (.int .i64 s)).setCell ⟨X, 2, none⟩ (.string ⟨n.toArray⟩)).setCell ⟨X, 3, none⟩ lv).setCell ⟨X, 4, none⟩ kv) (.agg #[.int .i64 k, .int .i64 s, .string ⟨n.toArray⟩, lv, kv]) (.mk k s n ls ks) := by
 have hne : X ≠ b := by omega
 have hs : Same (fun k => w.heap.size ≤ k ∧ k ≠ X) w7 (((((w7.setCell ⟨X, 0, none⟩ (.int .i64 k)).setCell ⟨X, 1, none⟩ (.int .i64 s)).setCell ⟨X, 2, none⟩ (.string ⟨n.toArray⟩)).setCell ⟨X, 3, none⟩ lv).setCell ⟨X, 4, none⟩ kv) := Same.fill (fun h => h.2 rfl) _ _ _ _ _
 refine ⟨XB.fill (.mk k s n ls ks) lv kv, grown_in (grown_in (grown_in (grown_in (grown_in hg hX _) hX _) hX _) hX _) hX _, ((((hR.far hne _).far hne _).far hne _).far hne _).far hne _, ?_⟩
 exact ⟨lv, kv, rfl, h1.keep hs (fun _ h _ => h.1), h2.keep hs (fun _ h _ => h.1)⟩
theorem finishKS {w w7 : World} {b X m : Nat} {l : Str} {q : St} {t0 : Ty} {lv0 kv0 : Value} (hb : b < w.heap.size) (hX : w.heap.size ≤ X) (hXm : X < m) (hm : m ≤ w7.heap.size) (hg : w.grownBy w7 (some b)) (hR : SBox w7 b l q) (XB : VBox w7 X t0 lv0 kv0) (k s : Int) (n : Str) (xs : List Value) (ts : List Ty) (hc : Cells5D (fun k => m ≤ k) w7 xs ts) (E : TypeId) :
  VBox ((((((w7.setCell ⟨X, 0, none⟩ (.int .i64 k)).setCell ⟨X, 1, none⟩ (.int .i64 s)).setCell ⟨X, 2, none⟩ (.string ⟨n.toArray⟩)).setCell ⟨X, 3, none⟩ (.slice none 0 0)).setCell ⟨X, 4, none⟩ (.slice (some ⟨w7.heap.size, 0, none⟩) ts.length ts.length)).alloc (.cells xs.toArray E)) X (.mk k s n [] ts) (.slice none 0 0) (.slice (some ⟨w7.heap.size, 0, none⟩) ts.length ts.length) ∧ w.grownBy ((((((w7.setCell ⟨X, 0, none⟩ (.int .i64 k)).setCell ⟨X, 1, none⟩ (.int .i64 s)).setCell ⟨X, 2, none⟩ (.string ⟨n.toArray⟩)).setCell ⟨X, 3, none⟩ (.slice none 0 0)).setCell ⟨X, 4, none⟩ (.slice (some ⟨w7.heap.size, 0, none⟩) ts.length ts.length)).alloc (.cells xs.toArray E)) (some b) ∧ SBox ((((((w7.setCell ⟨X, 0, none⟩ (.int .i64 k)).setCell ⟨X, 1, none⟩ (.int .i64 s)).setCell ⟨X, 2, none⟩ (.string ⟨n.toArray⟩)).setCell ⟨X, 3, none⟩ (.slice none 0 0)).setCell ⟨X, 4, none⟩ (.slice (some ⟨w7.heap.size, 0, none⟩) ts.length ts.length)).alloc (.cells xs.toArray E)) b l q ∧
   TyD (fun k => w.heap.size ≤ k) ((((((w7.setCell ⟨X, 0, none⟩ (.int .i64 k)).setCell ⟨X, 1, none⟩ (.int .i64 s)).setCell ⟨X, 2, none⟩ (.string ⟨n.toArray⟩)).setCell ⟨X, 3, none⟩ (.slice none 0 0)).setCell ⟨X, 4, none⟩ (.slice (some ⟨w7.heap.size, 0, none⟩) ts.length ts.length)).alloc (.cells xs.toArray E)) (.agg #[.int .i64 k, .int .i64 s, .string ⟨n.toArray⟩, .slice none 0 0, .slice (some ⟨w7.heap.size, 0, none⟩) ts.length ts.length]) (.mk k s n [] ts) := by
 have hne : X ≠ b := by omega
 have hs : Same (fun k => m ≤ k) w7 (((((w7.setCell ⟨X, 0, none⟩ (.int .i64 k)).setCell ⟨X, 1, none⟩ (.int .i64 s)).setCell ⟨X, 2, none⟩ (.string ⟨n.toArray⟩)).setCell ⟨X, 3, none⟩ (.slice none 0 0)).setCell ⟨X, 4, none⟩ (.slice (some ⟨w7.heap.size, 0, none⟩) ts.length ts.length)) := Same.fill (by omega) _ _ _ _ _
 have hz : ((((((w7.setCell ⟨X, 0, none⟩ (.int .i64 k)).setCell ⟨X, 1, none⟩ (.int .i64 s)).setCell ⟨X, 2, none⟩ (.string ⟨n.toArray⟩)).setCell ⟨X, 3, none⟩ (.slice none 0 0)).setCell ⟨X, 4, none⟩ (.slice (some ⟨w7.heap.size, 0, none⟩) ts.length ts.length))).heap.size = w7.heap.size := by simp only [World.size_setCell]
 have hV := XB.fill (.mk k s n [] ts) (.slice none 0 0) (.slice (some ⟨w7.heap.size, 0, none⟩) ts.length ts.length)
 have hG : w.grownBy (((((w7.setCell ⟨X, 0, none⟩ (.int .i64 k)).setCell ⟨X, 1, none⟩ (.int .i64 s)).setCell ⟨X, 2, none⟩ (.string ⟨n.toArray⟩)).setCell ⟨X, 3, none⟩ (.slice none 0 0)).setCell ⟨X, 4, none⟩ (.slice (some ⟨w7.heap.size, 0, none⟩) ts.length ts.length)) (some b) := grown_in (grown_in (grown_in (grown_in (grown_in hg hX _) hX _) hX _) hX _) hX _
 have hRR : SBox (((((w7.setCell ⟨X, 0, none⟩ (.int .i64 k)).setCell ⟨X, 1, none⟩ (.int .i64 s)).setCell ⟨X, 2, none⟩ (.string ⟨n.toArray⟩)).setCell ⟨X, 3, none⟩ (.slice none 0 0)).setCell ⟨X, 4, none⟩ (.slice (some ⟨w7.heap.size, 0, none⟩) ts.length ts.length)) b l q := ((((hR.far hne _).far hne _).far hne _).far hne _).far hne _
 simp only [Ty.kind, Ty.sort, Ty.name] at hV
 generalize (((((w7.setCell ⟨X, 0, none⟩ (.int .i64 k)).setCell ⟨X, 1, none⟩ (.int .i64 s)).setCell ⟨X, 2, none⟩ (.string ⟨n.toArray⟩)).setCell ⟨X, 3, none⟩ (.slice none 0 0)).setCell ⟨X, 4, none⟩ (.slice (some ⟨w7.heap.size, 0, none⟩) ts.length ts.length)) = w8 at hs hz hV hG hRR ⊢
 have hbel : Below w8.heap.size w8 (w8.alloc (.cells xs.toArray E)) := (Below.refl _ _).alloc (Nat.le_refl _) _
 refine ⟨hV.keep hbel hV.lt, grown_belowB hG hbel, hRR.keep hbel, _, _, rfl, no_strs _ _, _, _, rfl, Nat.le_refl _, fun _ => ⟨w7.heap.size, 0, rfl, by have := hg.size; omega, ?_⟩⟩
 have h9 : Same (fun k => m ≤ k) w7 (w8.alloc (.cells xs.toArray E)) := hs.trans (by omega) (Same.below hbel)
 refine (hc.keep h9 (fun k hk _ => by show w.heap.size ≤ k; omega)).row 0 fun j u hj => ?_
 rw [Nat.zero_add, World.cell?_alloc_at _ _ _ _ hz.symm]
 simpa using hj

section
variable (l : Str) (b p : Nat) (w : World) (hl : l.length ≤ 2000) (hp : p ≤ l.length)
include hl hp
omit hl hp in
set_option maxHeartbeats 2000000 in
theorem scan_bad (q : Nat) (hR : SBox w b l ⟨p, some q⟩) : Calls Tryz.prog 106 #[.pointer (some ⟨b, 0, none⟩)] w (AnsR w b l (zeroTy, ⟨p, some q⟩)) := by
 obtain ⟨c0, c1, c2, c3, c4, fr, lt⟩ := id hR
 simp only [codeOf, placeOf] at c3 c4
 have hbw := hR.lt
 have hmf : ∀ (fn : Fn) (first cap : Array Value) (w : World), (Instr.makeFunc fn first cap).run Tryz.prog w = .ok (.func fn first cap) w := fun _ _ _ _ => rfl
 go_enter Tryz.func106, Tryz.ntmps106
 go_wp2_with fail
 have hF := new_box w 30
 have hbW : Below w.heap.size w (w.alloc (.cells #[.int .i64 0, .int .i64 0, .string ⟨#[]⟩, .slice none 0 0, .slice none 0 0] 30)) := by go_grown
 have hRF := hR.keep hbW
 have hgF := grown_belowB (grown_refl w b) hbW
 generalize w.alloc (.cells #[.int .i64 0, .int .i64 0, .string ⟨#[]⟩, .slice none 0 0, .slice none 0 0] 30) = w5 at hF hRF hgF ⊢
 obtain ⟨d0, d1, d2, d3, d4, d5, d6⟩ := hF
 refine bodyPost_ret (v := .agg #[.int .i64 0, .int .i64 0, .string ⟨([] : Str).toArray⟩, .slice none 0 0, .slice none 0 0]) (by simp [results, Tryz.results106, go_sem, d0, d1, d2, d3, d4, zeroTy, Ty.kind, Ty.sort, Ty.name]) rfl ?_
 exact ⟨hgF, _, rfl, ⟨_, _, rfl, no_strs _ _, no_tys _ _⟩, hRF⟩
set_option maxHeartbeats 4000000 in
theorem scan_end (hR : SBox w b l ⟨p, none⟩) (W : Str) (p1 : Nat) (bad1 : Option Nat) (hM : must l startOk ⟨p, none⟩ = (W, ⟨p1, bad1⟩)) (hW : W = endW) : Calls Tryz.prog 106 #[.pointer (some ⟨b, 0, none⟩)] w (AnsR w b l (.mk 1 0 [] [] [], ⟨p1, bad1⟩)) := by
 subst hW
 obtain ⟨c0, c1, c2, c3, c4, fr, lt⟩ := id hR
 simp only [codeOf, placeOf] at c3 c4
 have hmf : ∀ (fn : Fn) (first cap : Array Value) (w : World), (Instr.makeFunc fn first cap).run Tryz.prog w = .ok (.func fn first cap) w := fun _ _ _ _ => rfl
 have hbw := hR.lt
 have hon := must_on (l := l) startOk (s := ⟨p, none⟩) hp
 rw [hM] at hon
 simp only [On] at hon
 go_enter Tryz.func106, Tryz.ntmps106
 go_wp2_with fail
 have XB := new_box w 30
 have hbW : Below w.heap.size w (w.alloc (.cells #[.int .i64 0, .int .i64 0, .string ⟨#[]⟩, .slice none 0 0, .slice none 0 0] 30)) := by go_grown
 have hR0 := hR.keep hbW
 have hg0 := grown_belowB (grown_refl w b) hbW
 generalize w.alloc (.cells #[.int .i64 0, .int .i64 0, .string ⟨#[]⟩, .slice none 0 0, .slice none 0 0] 30) = w0 at XB hR0 hg0 ⊢
 clear hbW hR c0 c1 c2 c3 c4 fr lt
 have hne1 : ¬ w.heap.size = b := by omega
 have hne2 : ¬ b = w.heap.size := by omega
 have hcall := must_any startOk 139 #[] (fun _ _ => by kernel_rfl) l b p none w0 hl hp hR0 (fun x w' hx _ => is1_start x w' hx)
 rw [hM] at hcall
 refine hcall.mono ?_; clear hcall
 rintro e w1 ⟨rfl, hg, hR1⟩
 have hg1 := grown_trans hg0 hg
 replace XB := XB.grown' hg (by omega)
 clear hg hR0 hg0 hM
 clear w0
 simp only at hR1
 obtain ⟨x0, x1, x2, x3, x4, x5, x6⟩ := id XB
 go_wp2_with fail
 obtain ⟨hF, hgF, hRF, hT⟩ := finishS hbw (Nat.le_refl _) hg1 hR1 XB (1) 0 [] [] [] (.slice none 0 0) (.slice none 0 0) (no_strs _ _) (no_tys _ _)
 generalize (((((w1.setCell ⟨w.heap.size, 0, none⟩ (.int .i64 1)).setCell ⟨w.heap.size, 1, none⟩ (.int .i64 0)).setCell ⟨w.heap.size, 2, none⟩ (.string ⟨#[]⟩)).setCell ⟨w.heap.size, 3, none⟩ (.slice none 0 0)).setCell ⟨w.heap.size, 4, none⟩ (.slice none 0 0)) = w5 at hF hgF hRF hT ⊢
 obtain ⟨d0, d1, d2, d3, d4, d5, d6⟩ := hF
 refine bodyPost_ret (v := .agg #[.int .i64 (1), .int .i64 0, .string ⟨([] : Str).toArray⟩, .slice none 0 0, .slice none 0 0]) (by simp [results, Tryz.results106, go_sem, d0, d1, d2, d3, d4, Ty.kind, Ty.sort, Ty.name]) rfl ?_
 exact ⟨hgF, _, rfl, hT, hRF⟩
set_option maxHeartbeats 4000000 in
theorem scan_var (hR : SBox w b l ⟨p, none⟩) (W : Str) (p1 : Nat) (bad1 : Option Nat) (hM : must l startOk ⟨p, none⟩ = (W, ⟨p1, bad1⟩)) (h1 : W ≠ endW) (h2 : W ≠ recW) (h3 : W ≠ [33]) (h4 : W ≠ [63]) (h5 : W ≠ [43]) (h6 : W ≠ [38]) : Calls Tryz.prog 106 #[.pointer (some ⟨b, 0, none⟩)] w (AnsR w b l (.mk 9 0 W [] [], ⟨p1, bad1⟩)) := by
 have n1 : (W == [101, 110, 100]) = false := by simpa [endW] using h1
 have n2 : (W == [114, 101, 99]) = false := by simpa [recW] using h2
 have n3 : (W == [33]) = false := by simpa using h3
 have n4 : (W == [63]) = false := by simpa using h4
 have n5 : (W == [43]) = false := by simpa using h5
 have n6 : (W == [38]) = false := by simpa using h6
 obtain ⟨c0, c1, c2, c3, c4, fr, lt⟩ := id hR
 simp only [codeOf, placeOf] at c3 c4
 have hmf : ∀ (fn : Fn) (first cap : Array Value) (w : World), (Instr.makeFunc fn first cap).run Tryz.prog w = .ok (.func fn first cap) w := fun _ _ _ _ => rfl
 have hbw := hR.lt
 have hon := must_on (l := l) startOk (s := ⟨p, none⟩) hp
 rw [hM] at hon
 simp only [On] at hon
 go_enter Tryz.func106, Tryz.ntmps106
 go_wp2_with fail
 have XB := new_box w 30
 have hbW : Below w.heap.size w (w.alloc (.cells #[.int .i64 0, .int .i64 0, .string ⟨#[]⟩, .slice none 0 0, .slice none 0 0] 30)) := by go_grown
 have hR0 := hR.keep hbW
 have hg0 := grown_belowB (grown_refl w b) hbW
 generalize w.alloc (.cells #[.int .i64 0, .int .i64 0, .string ⟨#[]⟩, .slice none 0 0, .slice none 0 0] 30) = w0 at XB hR0 hg0 ⊢
 clear hbW hR c0 c1 c2 c3 c4 fr lt
 have hne1 : ¬ w.heap.size = b := by omega
 have hne2 : ¬ b = w.heap.size := by omega
 have hcall := must_any startOk 139 #[] (fun _ _ => by kernel_rfl) l b p none w0 hl hp hR0 (fun x w' hx _ => is1_start x w' hx)
 rw [hM] at hcall
 refine hcall.mono ?_; clear hcall
 rintro e w1 ⟨rfl, hg, hR1⟩
 have hg1 := grown_trans hg0 hg
 replace XB := XB.grown' hg (by omega)
 clear hg hR0 hg0 hM
 clear w0
 simp only at hR1
 obtain ⟨x0, x1, x2, x3, x4, x5, x6⟩ := id XB
 go_wp2_with fail
 obtain ⟨hF, hgF, hRF, hT⟩ := finishS hbw (Nat.le_refl _) hg1 hR1 XB (9) 0 W [] [] (.slice none 0 0) (.slice none 0 0) (no_strs _ _) (no_tys _ _)
 generalize (((((w1.setCell ⟨w.heap.size, 0, none⟩ (.int .i64 9)).setCell ⟨w.heap.size, 1, none⟩ (.int .i64 0)).setCell ⟨w.heap.size, 2, none⟩ (.string ⟨W.toArray⟩)).setCell ⟨w.heap.size, 3, none⟩ (.slice none 0 0)).setCell ⟨w.heap.size, 4, none⟩ (.slice none 0 0)) = w5 at hF hgF hRF hT ⊢
 obtain ⟨d0, d1, d2, d3, d4, d5, d6⟩ := hF
 refine bodyPost_ret (v := .agg #[.int .i64 (9), .int .i64 0, .string ⟨(W : Str).toArray⟩, .slice none 0 0, .slice none 0 0]) (by simp [results, Tryz.results106, go_sem, d0, d1, d2, d3, d4, Ty.kind, Ty.sort, Ty.name]) rfl ?_
 exact ⟨hgF, _, rfl, hT, hRF⟩
set_option maxHeartbeats 4000000 in
theorem scan_rec (hR : SBox w b l ⟨p, none⟩) (W : Str) (p1 : Nat) (bad1 : Option Nat) (hM : must l startOk ⟨p, none⟩ = (W, ⟨p1, bad1⟩)) (hW : W = recW) (n : Nat) (ih : ∀ (s : St) (w : World), s.p ≤ l.length → (s.bad = none → l.length < n + s.p) → SBox w b l s → Calls Tryz.prog 106 #[.pointer (some ⟨b, 0, none⟩)] w (AnsR w b l (scanF l n s))) (hn : l.length < n + 1 + p) : Calls Tryz.prog 106 #[.pointer (some ⟨b, 0, none⟩)] w (AnsR w b l (.mk 8 0 (must l isVar ⟨p1, bad1⟩).1 [] [(scanF l n (must l (isW [46]) (must l isVar ⟨p1, bad1⟩).2).2).1], (scanF l n (must l (isW [46]) (must l isVar ⟨p1, bad1⟩).2).2).2)) := by
 subst hW
 obtain ⟨c0, c1, c2, c3, c4, fr, lt⟩ := id hR
 simp only [codeOf, placeOf] at c3 c4
 have hmf : ∀ (fn : Fn) (first cap : Array Value) (w : World), (Instr.makeFunc fn first cap).run Tryz.prog w = .ok (.func fn first cap) w := fun _ _ _ _ => rfl
 have hbw := hR.lt
 have hon := must_on (l := l) startOk (s := ⟨p, none⟩) hp
 rw [hM] at hon
 go_enter Tryz.func106, Tryz.ntmps106
 go_wp2_with fail
 have XB := new_box w 30
 have hbW : Below w.heap.size w (w.alloc (.cells #[.int .i64 0, .int .i64 0, .string ⟨#[]⟩, .slice none 0 0, .slice none 0 0] 30)) := by go_grown
 have hR0 := hR.keep hbW
 have hg0 := grown_belowB (grown_refl w b) hbW
 generalize w.alloc (.cells #[.int .i64 0, .int .i64 0, .string ⟨#[]⟩, .slice none 0 0, .slice none 0 0] 30) = w0 at XB hR0 hg0 ⊢
 clear hbW hR c0 c1 c2 c3 c4 fr lt
 have hne1 : ¬ w.heap.size = b := by omega
 have hne2 : ¬ b = w.heap.size := by omega
 have hcall := must_any startOk 139 #[] (fun _ _ => by kernel_rfl) l b p none w0 hl hp hR0 (fun x w' hx _ => is1_start x w' hx)
 rw [hM] at hcall
 refine hcall.mono ?_; clear hcall
 rintro e w1 ⟨rfl, hg, hR1⟩
 have hg1 := grown_trans hg0 hg
 replace XB := XB.grown' hg (by omega)
 clear hg hR0 hg0 hM
 clear w0
 simp only at hR1
 obtain ⟨x0, x1, x2, x3, x4, x5, x6⟩ := id XB
 go_wp2_with fail
 refine (must_any isVar 102 #[] (fun _ _ => by kernel_rfl) l b p1 bad1 w1 hl hon.2.1 hR1 (fun x w' hx _ => refIsVar_any x w' (by omega))).mono ?_
 have hon2 := (hon.trans (must_on (l := l) isVar (s := ⟨p1, bad1⟩) hon.2.1)).mono (d' := 1) (by omega)
 generalize must l isVar ⟨p1, bad1⟩ = M2 at *
 obtain ⟨nm, q2, bd2⟩ := M2
 rintro e w2 ⟨rfl, hg, hR2⟩
 have hg2 := grown_trans hg1 hg
 replace XB := XB.grown' hg (by omega)
 clear hg hR1 hg1 x0 x1 x2 x3 x4 x5 x6
 clear w1
 go_wp2_with fail
 refine (Is_any [46] w2).mono ?_
 rintro e wi ⟨rfl, hwi⟩
 have hbi : Below w2.heap.size w2 wi := by rw [hwi]; exact (Below.refl _ _).alloc (Nat.le_refl _) _
 have hci : wi.cell? ⟨w2.heap.size, 0, none⟩ = some (.string ⟨([46] : Str).toArray⟩) := by rw [hwi]; exact is_cell _ _ _
 have hNi : w2.heap.size ≠ b := by have := hR2.lt; omega
 have hRi := hR2.keep hbi
 have hgi := grown_belowB hg2 hbi
 replace XB := XB.keep hbi XB.lt
 clear hwi hR2 hg2
 generalize w2.heap.size = NI at hci hNi ⊢
 go_wp2_with fail
 refine (must_is [46] NI l b q2 bd2 wi hl hon2.2.1 hRi hNi hci).mono ?_
 have hon3 := (hon2.trans (must_on (l := l) (isW [46]) (s := ⟨q2, bd2⟩) hon2.2.1)).mono (d' := 1) (by omega)
 generalize must l (isW [46]) ⟨q2, bd2⟩ = M3 at *
 obtain ⟨y3, q3, bd3⟩ := M3
 rintro e w3 ⟨rfl, hg, hR3⟩
 have hg3 := grown_trans hgi hg
 replace XB := XB.grown' hg (by omega)
 clear hg hRi hgi hci hNi hbi
 go_wp2_with fail
 refine (ih ⟨q3, bd3⟩ w3 hon3.2.1 (fun h => by have h1 : p + 1 ≤ q3 := (hon3.2.2 h).2; show l.length < n + q3; omega) hR3).mono ?_
 generalize scanF l n ⟨q3, bd3⟩ = TT at *
 obtain ⟨t, q4, bd4⟩ := TT
 rintro e w7 ⟨hg, v, rfl, hT, hR7⟩
 have hg7 := grown_trans hg3 hg
 have hlt3 := XB.lt
 have hz37 := hg.size
 replace XB := XB.grown' hg (by omega)
 clear hg hR3 hg3
 obtain ⟨lv, kv, rfl, k1, k2⟩ := hT
 simp only at k1 k2
 have K1 := Lib.hid k1; have K2 := Lib.hid k2
 obtain ⟨A1, c1, rfl, -, -⟩ := k1
 obtain ⟨A2, c2, rfl, -, -⟩ := k2
 obtain ⟨x0, x1, x2, x3, x4, x5, x6⟩ := id XB
 go_wp2_with fail
 obtain ⟨hF, hgF, hRF, hT⟩ := finishKS hbw (Nat.le_refl _) (m := w3.heap.size) hlt3 hz37 hg7 hR7 XB 8 0 nm _ [t] (.cons t _ _ [] [] K1.out K2.out .nil) 30
 simp only [List.length_cons, List.length_nil] at hF hgF hRF hT
 generalize ((((((w7.setCell ⟨w.heap.size, 0, none⟩ (.int .i64 8)).setCell ⟨w.heap.size, 1, none⟩ (.int .i64 0)).setCell ⟨w.heap.size, 2, none⟩ (.string ⟨nm.toArray⟩)).setCell ⟨w.heap.size, 3, none⟩ (.slice none 0 0)).setCell ⟨w.heap.size, 4, none⟩ (.slice (some ⟨w7.heap.size, 0, none⟩) 1 1)).alloc _) = w9 at hF hgF hRF hT ⊢
 obtain ⟨d0, d1, d2, d3, d4, d5, d6⟩ := hF
 refine bodyPost_ret (v := .agg #[.int .i64 8, .int .i64 0, .string ⟨nm.toArray⟩, .slice none 0 0, .slice (some ⟨w7.heap.size, 0, none⟩) 1 1]) (by simp [results, Tryz.results106, go_sem, d0, d1, d2, d3, d4, Ty.kind, Ty.sort, Ty.name]) rfl ?_
 exact ⟨hgF, _, rfl, hT, hRF⟩
end
end Go.Proofs.YtpidjanngbaiiaaGreatDoor
namespace Go.Proofs.YtpidjanngbaiiaaGreatDoor
open Go.RowKit Go.Proofs

section
variable {P : Program} {ops : Array Oper} {Q : Exit → Act → World → Prop} {md : Region.Mode} {S : World → Prop} {n : Nat}
def Closed (md : Region.Mode) (ops : Array Oper) (L : Array Bool) : Prop := ∀ j o, ops[j]? = some o → L.getD j false = true → ∀ e ∈ o.after, Region.binds md e = true → L.getD e.on false = true
def closedB (md : Region.Mode) (ops : Array Oper) (L : Array Bool) : Bool := (List.range ops.size).all fun j => match ops[j]? with | some o => !(L.getD j false) || o.after.all fun e => !Region.binds md e || L.getD e.on false | none => true
theorem closed_of {L : Array Bool} (h : closedB md ops L = true) : Closed md ops L := by
 intro j o ho hj e he hb
 have hjs : j < ops.size := (Array.getElem?_eq_some_iff.1 ho).1
 have h1 := List.all_eq_true.1 h j (List.mem_range.2 hjs)
 simp only [ho, hj, Bool.not_true, Bool.false_or] at h1
 obtain ⟨k, hk, rfl⟩ := Array.mem_iff_getElem.1 he
 have h2 := Array.all_eq_true.1 h1 k hk
 simpa [hb] using h2
theorem closed_step {L : Array Bool} (h : Closed md ops L) {i : Nat} (hi : i ∈ Region.ready md ops L) : Closed md ops (L.setIfInBounds i true) := by
 intro j o ho hj e he hb
 obtain ⟨_, o', ho', hall⟩ := mem_ready.1 hi
 by_cases hij : i = j
 ·subst hij
  rw [ho] at ho'
  obtain rfl := Option.some.inj ho'
  exact getD_set_true (hall e he hb)
 ·rw [getD_set_ne false hij] at hj
  exact getD_set_true (h j o ho hj e he hb)
def waitsT (md : Region.Mode) (ops : Array Oper) (i : Nat) : Nat → Nat → Bool
 | 0, _ => false
 | f + 1, k => match ops[k]? with
  | some o => o.after.any fun e => Region.binds md e && (e.on == i || waitsT md ops i f e.on)
  | none => false
theorem waitsT_no {L : Array Bool} (h : Closed md ops L) {i : Nat} (hi : L.getD i false = false) : ∀ (f k : Nat), waitsT md ops i f k = true → L.getD k false = false := by
 intro f
 induction f with
 | zero => intro k hk; simp [waitsT] at hk
 | succ f ih =>
  intro k hk
  cases hL : L.getD k false with
  | false => rfl
  | true =>
   unfold waitsT at hk
   split at hk
   ·rename_i o ho
    obtain ⟨x, hx, he⟩ := Array.any_eq_true.1 hk
    simp only [Bool.and_eq_true, Bool.or_eq_true, beq_iff_eq] at he
    have h1 := h k o ho hL _ (Array.getElem_mem hx) he.1
    rcases he.2 with e | e
    ·rw [e, hi] at h1; cases h1
    ·rw [ih _ e] at h1; cases h1
   ·cases hk
def tailWaitsT (md : Region.Mode) (ops : Array Oper) (n i : Nat) : Bool := (List.range ops.size).all fun j => decide (j < n) || waitsT md ops i ops.size j
theorem tailT_lt {i j : Nat} {L : Array Bool} (hc : Closed md ops L) (h : tailWaitsT md ops n i = true) (hi : L.getD i true = false) (hj : j ∈ Region.ready md ops L) : j < n := by
 have hif : L.getD i false = false := by
  rcases Nat.lt_or_ge i L.size with h' | h'
  ·simp only [Array.getD, h', dite_true] at hi ⊢; exact hi
  ·simp [Array.getD, Nat.not_lt.2 h'] at hi
 obtain ⟨hu, o, ho, hall⟩ := mem_ready.1 hj
 have hjs : j < ops.size := (Array.getElem?_eq_some_iff.1 ho).1
 have h1 := List.all_eq_true.1 h j (List.mem_range.2 hjs)
 simp only [Bool.or_eq_true, decide_eq_true_eq] at h1
 rcases h1 with h1 | h1
 ·exact h1
 ·exfalso
  obtain ⟨f, hf⟩ : ∃ f, ops.size = f + 1 := ⟨ops.size - 1, by omega⟩
  rw [hf] at h1
  unfold waitsT at h1
  rw [ho] at h1
  obtain ⟨x, hx, he⟩ := Array.any_eq_true.1 h1
  simp only [Bool.and_eq_true, Bool.or_eq_true, beq_iff_eq] at he
  have h2 := hall _ (Array.getElem_mem hx) he.1
  rcases he.2 with e | e
  ·rw [e, hif] at h2; cases h2
  ·rw [waitsT_no hc hif _ _ e] at h2; cases h2
theorem wpT_firstT {i : Nat} {oi : Oper} {v : Value} (hi : ops[i]? = some oi) (hsel : ∀ (j : Nat) (o : Oper) cs b, ops[j]? = some o → o.op ≠ .select cs b) (htail : tailWaitsT md ops n i = true)
  (hQ : ∀ c a w, Q (.panic c) (a.put oi.dst v) w → Q (.panic c) a w) :
  ∀ (g : Nat) (L : Array Bool) (a : Act) (w : World), Closed md ops L →
   (∀ j oj, ops[j]? = some oj → j ≠ i → L.getD j true = false → (∀ e ∈ oj.after, Region.binds md e = true → e.on ≠ i) → oi.apart ops oj = true) →
   i ∈ Region.ready md ops L → YieldsIf P ops S oi v a → S w → wpT P md ops Q S n g (L.setIfInBounds i true) (a.put oi.dst v) w → wpT P md ops Q S n (g + 1) L a w := by
 intro g
 induction g with
 | zero =>
  intro L a w _ _ hr hy hS H
  refine ⟨fun h => (by rw [h] at hr; cases hr), fun j hj => ?_⟩
  by_cases hji : j = i
  ·subst hji
   exact hy.wpOp hi hS ⟨fun _ => hS, H⟩
  ·have h1 := ready_mono hj hji
   rw [H.1] at h1
   cases h1
 | succ g ih =>
  intro L a w hc hfree hr hy hS H
  refine ⟨fun h => (by rw [h] at hr; cases hr), fun j hj => ?_⟩
  by_cases hji : j = i
  ·subst hji
   exact hy.wpOp hi hS ⟨fun _ => hS, H⟩
  have hiL := (mem_ready.1 hr).1
  have hjn : j < n := tailT_lt hc htail hiL hj
  have h1 := H.2 j (ready_mono hj hji)
  obtain ⟨hju, oj, hoj, hall⟩ := mem_ready.1 hj
  have hno : ∀ e ∈ oj.after, Region.binds md e = true → e.on ≠ i := by
   intro e he hb hei
   have h2 := hall e he hb
   rw [hei] at h2
   rcases Nat.lt_or_ge i L.size with h' | h'
   ·simp only [Array.getD, h', dite_true] at hiL h2
    exact absurd (hiL.symm.trans h2) (by simp)
   ·simp [Array.getD, Nat.not_lt.2 h'] at hiL
  have h2 := wpOp_putIf hoj (hfree j oj hoj hji hju hno) (fun cs b => hsel i oi cs b hi) (fun cs b => hsel j oj cs b hoj) hQ hy h1
  refine wpOp_mono (fun a' w' h3 => ⟨h3.2.1, ?_⟩) h2
  refine ih (L.setIfInBounds j true) a' w' (closed_step hc hj) (fun k ok hk hki hun hno' => ?_) (ready_mono hr (Ne.symm hji)) h3.1 (h3.2.1 hjn) ?_
  ·refine hfree k ok hk hki ?_ hno'
   by_cases hjk : j = k
   ·subst hjk; exact hju
   ·rw [getD_set_ne true hjk] at hun; exact hun
  ·rw [Array.setIfInBounds_comm _ _ hji]
   exact h3.2.2
theorem wpT_takeT {i : Nat} {oi : Oper} {v : Value} {g : Nat} {L : Array Bool} {a : Act} {w : World} (hi : ops[i]? = some oi)
  (hs : Region.noSelect ops = true) (hf : Region.free md ops L i = true) (hr : (Region.ready md ops L).contains i = true) (ht : tailWaitsT md ops n i = true) (hc : closedB md ops L = true)
  (hQ : ∀ c a w, Q (.panic c) (a.put oi.dst v) w → Q (.panic c) a w) (hy : YieldsIf P ops S oi v a) (hS : S w)
  (h : wpT P md ops Q S n g (L.setIfInBounds i true) (a.put oi.dst v) w) : wpT P md ops Q S n (g + 1) L a w :=
 wpT_firstT hi (Region.noSelect_spec hs) ht hQ g L a w (closed_of hc) (Region.free_spec hi hf) (by simpa using hr) hy hS h
end
end Go.Proofs.YtpidjanngbaiiaaGreatDoor
