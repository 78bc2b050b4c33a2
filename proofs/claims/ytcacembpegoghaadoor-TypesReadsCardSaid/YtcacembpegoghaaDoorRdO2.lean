/-
  The program's reader of a type: one, where no word stands.
-/
import Derived.Test.YtcacembpegoghaaDoorRdO
namespace Go.Proofs.YtcacembpegoghaaDoor
open Go.RowKit Go.Proofs

set_option maxRecDepth 100000
section
variable (l : Str) (b p : Nat) (w : World) (hl : l.length ≤ 2000) (hp : p ≤ l.length) (hR : RBox w b l p)
include hl hp hR
set_option maxHeartbeats 2000000 in
theorem one_stuck (W : Str) (h : wd l (sk l p) = W) (h0 : W ≠ []) (h1 : W ≠ endW) (h2 : W ≠ recW) (h3 : isVar W = false) : Calls Tryd.prog 106 #[.pointer (some ⟨b, 0, none⟩)] w (Ans w b l (.bad (sk l p))) := by
  have hs := sk_le hp
  have hw := wd_le hs.2
  rw [h] at hw
  have hcall := fun w hR => word_any l b p w hl hp hR
  rw [h] at hcall
  generalize sk l p = q at hs hw hcall ⊢
  clear h
  have H3 := Lib.hid h3; clear h3
  have n1 : (W == [101, 110, 100]) = false := by simpa [endW] using h1
  have n2 : (W == [114, 101, 99]) = false := by simpa [recW] using h2
  have n3 : (W == []) = false := by simpa using h0
  have hbw := hR.lt
  go_enter Tryd.func106, Tryd.ntmps106
  go_wp2_with fail
  have XB := new_box w 51
  have hbW : Below w.heap.size w (w.alloc (.cells #[.int .i64 0, .int .i64 0, .string ⟨#[]⟩, .slice none 0 0, .slice none 0 0] 51)) := by go_grown
  have hR0 := hR.keep hbW
  have hg0 := grown_belowB (grown_refl w b) hbW
  generalize w.alloc (.cells #[.int .i64 0, .int .i64 0, .string ⟨#[]⟩, .slice none 0 0, .slice none 0 0] 51) = w0 at XB hR0 hg0 ⊢
  clear hbW hR
  have hne1 : ¬ w.heap.size = b := by omega
  have hne2 : ¬ b = w.heap.size := by omega
  refine (hcall w0 hR0).mono ?_
  rintro e w1 ⟨rfl, hg, hR1⟩
  have hg1 := grown_trans hg0 hg
  replace XB := XB.grown' hg (by omega)
  clear hg hR0 hg0
  obtain ⟨r0, r1, r2, r3⟩ := id hR1
  obtain ⟨x0, x1, x2, x3, x4, x5, x6⟩ := id XB
  go_wp2_with fail
  refine (isVar_any W _ (by omega)).mono ?_; rw [H3.out]; rintro e w2 ⟨rfl, hb2⟩
  replace hR1 := hR1.keep hb2
  replace hg1 := grown_belowB hg1 hb2
  clear r0 r1 r2 r3 x0 x1 x2 x3 x4 x5 x6 hb2 XB
  clear w1
  go_wp2_with fail
  refine (fail_any l b q w2 hR1).mono ?_
  rintro e w3 ⟨rfl, hg3⟩
  exact ⟨rfl, grown_trans hg1 hg3, rfl⟩
set_option maxHeartbeats 2000000 in
theorem one_sign (S : World → Prop) (hSk : ∀ w w' : World, S w → w.grownBy w' (some b) → S w') (hS : S w) (h : wd l (sk l p) = []) (R1 R2 R3 R4 : Rd Ty) (h1 : l[sk l p]? = some 33 → ∀ w, S w → RBox w b l (sk l p) → Calls Tryd.prog 190 #[.pointer (some ⟨b, 0, none⟩), .int .i64 2, .int .i64 4] w (Ans w b l R1)) (h2 : l[sk l p]? = some 63 → ∀ w, S w → RBox w b l (sk l p) → Calls Tryd.prog 190 #[.pointer (some ⟨b, 0, none⟩), .int .i64 3, .int .i64 5] w (Ans w b l R2)) (h3 : l[sk l p]? = some 43 → ∀ w, S w → RBox w b l (sk l p) → Calls Tryd.prog 191 #[.pointer (some ⟨b, 0, none⟩), .int .i64 6] w (Ans w b l R3)) (h4 : l[sk l p]? = some 38 → ∀ w, S w → RBox w b l (sk l p) → Calls Tryd.prog 191 #[.pointer (some ⟨b, 0, none⟩), .int .i64 7] w (Ans w b l R4)) : Calls Tryd.prog 106 #[.pointer (some ⟨b, 0, none⟩)] w (Ans w b l (if l[sk l p]? = some 33 then R1 else if l[sk l p]? = some 63 then R2 else if l[sk l p]? = some 43 then R3 else if l[sk l p]? = some 38 then R4 else .bad (sk l p))) := by
  have hs := sk_le hp
  have hw := wd_le hs.2
  rw [h] at hw
  have hcall := fun w hR => word_any l b p w hl hp hR
  rw [h] at hcall
  have hqq := sk_sk l p
  generalize sk l p = q at hs hw hcall hqq h1 h2 h3 h4 ⊢
  obtain ⟨RES, hRES⟩ : ∃ r, (if l[q]? = some 33 then R1 else if l[q]? = some 63 then R2 else if l[q]? = some 43 then R3 else if l[q]? = some 38 then R4 else .bad q : Rd Ty) = r := ⟨_, rfl⟩
  rw [hRES]
  have HRES := Lib.hid hRES; clear hRES
  clear h
  have hbw := hR.lt
  go_enter Tryd.func106, Tryd.ntmps106
  go_wp2_with fail
  have XB := new_box w 51
  have hbW : Below w.heap.size w (w.alloc (.cells #[.int .i64 0, .int .i64 0, .string ⟨#[]⟩, .slice none 0 0, .slice none 0 0] 51)) := by go_grown
  have hR0 := hR.keep hbW
  have hg0 := grown_belowB (grown_refl w b) hbW
  generalize w.alloc (.cells #[.int .i64 0, .int .i64 0, .string ⟨#[]⟩, .slice none 0 0, .slice none 0 0] 51) = w0 at XB hR0 hg0 ⊢
  clear hbW hR
  have hne1 : ¬ w.heap.size = b := by omega
  have hne2 : ¬ b = w.heap.size := by omega
  refine (hcall w0 hR0).mono ?_
  rintro e w1 ⟨rfl, hg, hR1⟩
  have hg1 := grown_trans hg0 hg
  replace XB := XB.grown' hg (by omega)
  clear hg hR0 hg0
  obtain ⟨r0, r1, r2, r3⟩ := id hR1
  obtain ⟨x0, x1, x2, x3, x4, x5, x6⟩ := id XB
  go_wp2_with fail
  have hv0 : isVar [] = false := by decide
  have HV0 := Lib.hid hv0; clear hv0
  refine (isVar_any [] _ (by simp)).mono ?_; rw [HV0.out]; rintro e w2 ⟨rfl, hb2⟩
  have XB2 := XB.keep hb2 XB.lt
  have hR2 := hR1.keep hb2
  have hg2 := grown_belowB hg1 hb2
  clear r0 r1 r2 r3 x0 x1 x2 x3 x4 x5 x6 hb2 XB hR1 hg1
  clear w1
  go_wp2_with fail
  have hcal := is_any l b q 33 w2 hl hs.2 hR2
  rw [hqq] at hcal
  cases hd : decide (l[q]? = some 33) with
  | true =>
    rw [hd] at hcal
    refine hcal.mono ?_; clear hcal
    rintro e w3 ⟨rfl, hg, hR3⟩
    have hg3 := grown_trans hg2 hg
    have XB3 := XB2.grown' hg (by omega)
    clear hg hR2 hg2 XB2
    clear w2
    go_wp2_with fail
    have hd' : l[q]? = some 33 := by simpa using hd
    have hS3 := hSk w w3 hS hg3
    refine (h1 hd' w3 hS3 hR3).mono ?_
    rintro e w4 ⟨hg, hans⟩
    have hg4 := grown_trans hg3 hg
    have XB4 := XB3.grown' hg (by omega)
    have hX := XB3.lt
    have HE : Hid (R1 = RES) := Lib.hid (by rw [← HRES.out, if_pos hd'])
    clear HRES
    cases R1 with
    | bad q' =>
      simp only at hans
      subst hans
      refine ⟨rfl, hg4, ?_⟩
      rw [← HE.out]
    | ok t q' =>
      obtain ⟨v, rfl, hT, hR4⟩ := hans
      obtain ⟨k, s, n, ls, ks⟩ := t
      obtain ⟨lv, kv, rfl, k1, k2⟩ := hT
      simp only [Ty.kind, Ty.sort, Ty.name, Ty.labels, Ty.kids] at k1 k2 ⊢
      have K1 := Lib.hid (k1.keep (D' := fun k => w.heap.size ≤ k ∧ k ≠ w.heap.size) (fun _ _ _ => rfl) (fun k hk _ => by have := hg3.size; constructor <;> omega))
      have K2 := Lib.hid (k2.keep (D' := fun k => w.heap.size ≤ k ∧ k ≠ w.heap.size) (fun _ _ _ => rfl) (fun k hk _ => by have := hg3.size; constructor <;> omega))
      obtain ⟨A1, c1, rfl, -, -⟩ := k1
      obtain ⟨A2, c2, rfl, -, -⟩ := k2
      obtain ⟨x0, x1, x2, x3, x4, x5, x6⟩ := id XB4
      clear hg hR3 hg3 XB3 h1 h2 h3 h4
      go_wp2_with fail
      obtain ⟨hF, hgF, hRF, hT⟩ := finish hbw (Nat.le_refl _) hg4 hR4 XB4 k s n ls ks _ _ K1.out K2.out
      generalize (((((w4.setCell ⟨w.heap.size, 0, none⟩ (.int .i64 k)).setCell ⟨w.heap.size, 1, none⟩ (.int .i64 s)).setCell ⟨w.heap.size, 2, none⟩ (.string ⟨n.toArray⟩)).setCell ⟨w.heap.size, 3, none⟩ (.slice A1 ls.length c1)).setCell ⟨w.heap.size, 4, none⟩ (.slice A2 ks.length c2)) = w9 at hF hgF hRF hT ⊢
      obtain ⟨d0, d1, d2, d3, d4, d5, d6⟩ := hF
      refine bodyPost_ret (v := .agg #[.int .i64 k, .int .i64 s, .string ⟨n.toArray⟩, .slice A1 ls.length c1, .slice A2 ks.length c2]) (by simp [results, Tryd.results106, go_sem, d0, d1, d2, d3, d4, Ty.kind, Ty.sort, Ty.name]) rfl ?_
      refine ⟨hgF, ?_⟩
      rw [← HE.out]
      exact ⟨_, rfl, hT, hRF⟩
  | false =>
    rw [hd] at hcal
    refine hcal.mono ?_; clear hcal
    rintro e w3 ⟨rfl, hg, hR3⟩
    have hg3 := grown_trans hg2 hg
    have XB3 := XB2.grown' hg (by omega)
    have hd1 : ¬ l[q]? = some 33 := by simpa using hd
    clear hg hR2 hg2 XB2 hd
    clear w2
    go_wp2_with fail
    have hcal := is_any l b q 63 w3 hl hs.2 hR3
    rw [hqq] at hcal
    cases hd : decide (l[q]? = some 63) with
    | true =>
      rw [hd] at hcal
      refine hcal.mono ?_; clear hcal
      rintro e w4 ⟨rfl, hg, hR4⟩
      have hg4 := grown_trans hg3 hg
      have XB4 := XB3.grown' hg (by omega)
      clear hg hR3 hg3 XB3
      clear w3
      go_wp2_with fail
      have hd' : l[q]? = some 63 := by simpa using hd
      have hS4 := hSk w w4 hS hg4
      refine (h2 hd' w4 hS4 hR4).mono ?_
      rintro e w5 ⟨hg, hans⟩
      have hg5 := grown_trans hg4 hg
      have XB5 := XB4.grown' hg (by omega)
      have hX := XB4.lt
      have HE : Hid (R2 = RES) := Lib.hid (by rw [← HRES.out, if_neg hd1, if_pos hd'])
      clear HRES
      cases R2 with
      | bad q' =>
        simp only at hans
        subst hans
        refine ⟨rfl, hg5, ?_⟩
        rw [← HE.out]
      | ok t q' =>
        obtain ⟨v, rfl, hT, hR5⟩ := hans
        obtain ⟨k, s, n, ls, ks⟩ := t
        obtain ⟨lv, kv, rfl, k1, k2⟩ := hT
        simp only [Ty.kind, Ty.sort, Ty.name, Ty.labels, Ty.kids] at k1 k2 ⊢
        have K1 := Lib.hid (k1.keep (D' := fun k => w.heap.size ≤ k ∧ k ≠ w.heap.size) (fun _ _ _ => rfl) (fun k hk _ => by have := hg4.size; constructor <;> omega))
        have K2 := Lib.hid (k2.keep (D' := fun k => w.heap.size ≤ k ∧ k ≠ w.heap.size) (fun _ _ _ => rfl) (fun k hk _ => by have := hg4.size; constructor <;> omega))
        obtain ⟨A1, c1, rfl, -, -⟩ := k1
        obtain ⟨A2, c2, rfl, -, -⟩ := k2
        obtain ⟨x0, x1, x2, x3, x4, x5, x6⟩ := id XB5
        clear hg hR4 hg4 XB4 h1 h2 h3 h4
        go_wp2_with fail
        obtain ⟨hF, hgF, hRF, hT⟩ := finish hbw (Nat.le_refl _) hg5 hR5 XB5 k s n ls ks _ _ K1.out K2.out
        generalize (((((w5.setCell ⟨w.heap.size, 0, none⟩ (.int .i64 k)).setCell ⟨w.heap.size, 1, none⟩ (.int .i64 s)).setCell ⟨w.heap.size, 2, none⟩ (.string ⟨n.toArray⟩)).setCell ⟨w.heap.size, 3, none⟩ (.slice A1 ls.length c1)).setCell ⟨w.heap.size, 4, none⟩ (.slice A2 ks.length c2)) = w9 at hF hgF hRF hT ⊢
        obtain ⟨d0, d1, d2, d3, d4, d5, d6⟩ := hF
        refine bodyPost_ret (v := .agg #[.int .i64 k, .int .i64 s, .string ⟨n.toArray⟩, .slice A1 ls.length c1, .slice A2 ks.length c2]) (by simp [results, Tryd.results106, go_sem, d0, d1, d2, d3, d4, Ty.kind, Ty.sort, Ty.name]) rfl ?_
        refine ⟨hgF, ?_⟩
        rw [← HE.out]
        exact ⟨_, rfl, hT, hRF⟩
    | false =>
      rw [hd] at hcal
      refine hcal.mono ?_; clear hcal
      rintro e w4 ⟨rfl, hg, hR4⟩
      have hg4 := grown_trans hg3 hg
      have XB4 := XB3.grown' hg (by omega)
      have hd2 : ¬ l[q]? = some 63 := by simpa using hd
      clear hg hR3 hg3 XB3 hd
      clear w3
      go_wp2_with fail
      have hcal := is_any l b q 43 w4 hl hs.2 hR4
      rw [hqq] at hcal
      cases hd : decide (l[q]? = some 43) with
      | true =>
        rw [hd] at hcal
        refine hcal.mono ?_; clear hcal
        rintro e w5 ⟨rfl, hg, hR5⟩
        have hg5 := grown_trans hg4 hg
        have XB5 := XB4.grown' hg (by omega)
        clear hg hR4 hg4 XB4
        clear w4
        go_wp2_with fail
        have hd' : l[q]? = some 43 := by simpa using hd
        have hS5 := hSk w w5 hS hg5
        refine (h3 hd' w5 hS5 hR5).mono ?_
        rintro e w6 ⟨hg, hans⟩
        have hg6 := grown_trans hg5 hg
        have XB6 := XB5.grown' hg (by omega)
        have hX := XB5.lt
        have HE : Hid (R3 = RES) := Lib.hid (by rw [← HRES.out, if_neg hd1, if_neg hd2, if_pos hd'])
        clear HRES
        cases R3 with
        | bad q' =>
          simp only at hans
          subst hans
          refine ⟨rfl, hg6, ?_⟩
          rw [← HE.out]
        | ok t q' =>
          obtain ⟨v, rfl, hT, hR6⟩ := hans
          obtain ⟨k, s, n, ls, ks⟩ := t
          obtain ⟨lv, kv, rfl, k1, k2⟩ := hT
          simp only [Ty.kind, Ty.sort, Ty.name, Ty.labels, Ty.kids] at k1 k2 ⊢
          have K1 := Lib.hid (k1.keep (D' := fun k => w.heap.size ≤ k ∧ k ≠ w.heap.size) (fun _ _ _ => rfl) (fun k hk _ => by have := hg5.size; constructor <;> omega))
          have K2 := Lib.hid (k2.keep (D' := fun k => w.heap.size ≤ k ∧ k ≠ w.heap.size) (fun _ _ _ => rfl) (fun k hk _ => by have := hg5.size; constructor <;> omega))
          obtain ⟨A1, c1, rfl, -, -⟩ := k1
          obtain ⟨A2, c2, rfl, -, -⟩ := k2
          obtain ⟨x0, x1, x2, x3, x4, x5, x6⟩ := id XB6
          clear hg hR5 hg5 XB5 h1 h2 h3 h4
          go_wp2_with fail
          obtain ⟨hF, hgF, hRF, hT⟩ := finish hbw (Nat.le_refl _) hg6 hR6 XB6 k s n ls ks _ _ K1.out K2.out
          generalize (((((w6.setCell ⟨w.heap.size, 0, none⟩ (.int .i64 k)).setCell ⟨w.heap.size, 1, none⟩ (.int .i64 s)).setCell ⟨w.heap.size, 2, none⟩ (.string ⟨n.toArray⟩)).setCell ⟨w.heap.size, 3, none⟩ (.slice A1 ls.length c1)).setCell ⟨w.heap.size, 4, none⟩ (.slice A2 ks.length c2)) = w9 at hF hgF hRF hT ⊢
          obtain ⟨d0, d1, d2, d3, d4, d5, d6⟩ := hF
          refine bodyPost_ret (v := .agg #[.int .i64 k, .int .i64 s, .string ⟨n.toArray⟩, .slice A1 ls.length c1, .slice A2 ks.length c2]) (by simp [results, Tryd.results106, go_sem, d0, d1, d2, d3, d4, Ty.kind, Ty.sort, Ty.name]) rfl ?_
          refine ⟨hgF, ?_⟩
          rw [← HE.out]
          exact ⟨_, rfl, hT, hRF⟩
      | false =>
        rw [hd] at hcal
        refine hcal.mono ?_; clear hcal
        rintro e w5 ⟨rfl, hg, hR5⟩
        have hg5 := grown_trans hg4 hg
        have XB5 := XB4.grown' hg (by omega)
        have hd3 : ¬ l[q]? = some 43 := by simpa using hd
        clear hg hR4 hg4 XB4 hd
        clear w4
        go_wp2_with fail
        have hcal := is_any l b q 38 w5 hl hs.2 hR5
        rw [hqq] at hcal
        cases hd : decide (l[q]? = some 38) with
        | true =>
          rw [hd] at hcal
          refine hcal.mono ?_; clear hcal
          rintro e w6 ⟨rfl, hg, hR6⟩
          have hg6 := grown_trans hg5 hg
          have XB6 := XB5.grown' hg (by omega)
          clear hg hR5 hg5 XB5
          clear w5
          go_wp2_with fail
          have hd' : l[q]? = some 38 := by simpa using hd
          have hS6 := hSk w w6 hS hg6
          refine (h4 hd' w6 hS6 hR6).mono ?_
          rintro e w7 ⟨hg, hans⟩
          have hg7 := grown_trans hg6 hg
          have XB7 := XB6.grown' hg (by omega)
          have hX := XB6.lt
          have HE : Hid (R4 = RES) := Lib.hid (by rw [← HRES.out, if_neg hd1, if_neg hd2, if_neg hd3, if_pos hd'])
          clear HRES
          cases R4 with
          | bad q' =>
            simp only at hans
            subst hans
            refine ⟨rfl, hg7, ?_⟩
            rw [← HE.out]
          | ok t q' =>
            obtain ⟨v, rfl, hT, hR7⟩ := hans
            obtain ⟨k, s, n, ls, ks⟩ := t
            obtain ⟨lv, kv, rfl, k1, k2⟩ := hT
            simp only [Ty.kind, Ty.sort, Ty.name, Ty.labels, Ty.kids] at k1 k2 ⊢
            have K1 := Lib.hid (k1.keep (D' := fun k => w.heap.size ≤ k ∧ k ≠ w.heap.size) (fun _ _ _ => rfl) (fun k hk _ => by have := hg6.size; constructor <;> omega))
            have K2 := Lib.hid (k2.keep (D' := fun k => w.heap.size ≤ k ∧ k ≠ w.heap.size) (fun _ _ _ => rfl) (fun k hk _ => by have := hg6.size; constructor <;> omega))
            obtain ⟨A1, c1, rfl, -, -⟩ := k1
            obtain ⟨A2, c2, rfl, -, -⟩ := k2
            obtain ⟨x0, x1, x2, x3, x4, x5, x6⟩ := id XB7
            clear hg hR6 hg6 XB6 h1 h2 h3 h4
            go_wp2_with fail
            obtain ⟨hF, hgF, hRF, hT⟩ := finish hbw (Nat.le_refl _) hg7 hR7 XB7 k s n ls ks _ _ K1.out K2.out
            generalize (((((w7.setCell ⟨w.heap.size, 0, none⟩ (.int .i64 k)).setCell ⟨w.heap.size, 1, none⟩ (.int .i64 s)).setCell ⟨w.heap.size, 2, none⟩ (.string ⟨n.toArray⟩)).setCell ⟨w.heap.size, 3, none⟩ (.slice A1 ls.length c1)).setCell ⟨w.heap.size, 4, none⟩ (.slice A2 ks.length c2)) = w9 at hF hgF hRF hT ⊢
            obtain ⟨d0, d1, d2, d3, d4, d5, d6⟩ := hF
            refine bodyPost_ret (v := .agg #[.int .i64 k, .int .i64 s, .string ⟨n.toArray⟩, .slice A1 ls.length c1, .slice A2 ks.length c2]) (by simp [results, Tryd.results106, go_sem, d0, d1, d2, d3, d4, Ty.kind, Ty.sort, Ty.name]) rfl ?_
            refine ⟨hgF, ?_⟩
            rw [← HE.out]
            exact ⟨_, rfl, hT, hRF⟩
        | false =>
          rw [hd] at hcal
          refine hcal.mono ?_; clear hcal
          rintro e w6 ⟨rfl, hg, hR6⟩
          have hg6 := grown_trans hg5 hg
          have XB6 := XB5.grown' hg (by omega)
          have hd4 : ¬ l[q]? = some 38 := by simpa using hd
          clear hg hR5 hg5 XB5 hd
          clear w5
          go_wp2_with fail
          refine (fail_any l b q w6 hR6).mono ?_
          rintro e w7 ⟨rfl, hg7⟩
          refine ⟨rfl, ?_⟩
          rw [← HRES.out, if_neg hd1, if_neg hd2, if_neg hd3, if_neg hd4]
          exact ⟨grown_trans hg6 hg7, rfl⟩
end
end Go.Proofs.YtcacembpegoghaaDoor
