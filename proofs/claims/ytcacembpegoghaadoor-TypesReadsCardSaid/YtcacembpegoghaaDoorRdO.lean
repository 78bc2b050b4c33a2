/-
  The program's reader of a type: one, by cases of what stands there.
-/
import Derived.Test.YtcacembpegoghaaDoorRdP
import Derived.Test.YtcacembpegoghaaDoorTyD
import Derived.Test.YtcacembpegoghaaDoorHeld
namespace Go.Proofs.YtcacembpegoghaaDoor
open Go.RowKit Go.Proofs

set_option maxRecDepth 100000
/-- What a reading answers in the program: the type and the rest behind it, or what is thrown. -/
def Ans (w : World) (b : Nat) (l : Str) (r : Rd Ty) (e : Ending) (w' : World) : Prop := w.grownBy w' (some b) ∧ match r with
  | .ok t q => ∃ v, e = .returned v ∧ TyD (fun k => w.heap.size ≤ k) w' v t ∧ RBox w' b l q
  | .bad q => e = .panicked (thrown q)
theorem VBox.grown' {w w' : World} {b p : Nat} {t : Ty} {lv kv : Value} (h : VBox w b t lv kv) (hg : w.grownBy w' (some p)) (hb : b ≠ p) : VBox w' b t lv kv := by
  have hc : ∀ j, w'.cell? ⟨b, j, none⟩ = w.cell? ⟨b, j, none⟩ := fun j => World.cell?_of_block (a := ⟨b, j, none⟩) (hg.block b h.lt (fun e => hb (by injection e)))
  have hf : ∀ j, w'.frozen? ⟨b, j, none⟩ = w.frozen? ⟨b, j, none⟩ := fun j => World.frozen?_of_block (a := ⟨b, j, none⟩) (hg.block b h.lt (fun e => hb (by injection e)))
  exact ⟨(hc 0).trans h.c0, (hc 1).trans h.c1, (hc 2).trans h.c2, (hc 3).trans h.c3, (hc 4).trans h.c4, fun j => (hf j).trans (h.fr j), Nat.lt_of_lt_of_le h.lt hg.size⟩
/-- A new box for the answer. -/
theorem new_box (w : World) (E : TypeId) : VBox (w.alloc (.cells #[.int .i64 0, .int .i64 0, .string ⟨#[]⟩, .slice none 0 0, .slice none 0 0] E)) w.heap.size zeroTy (.slice none 0 0) (.slice none 0 0) :=
  ⟨by simp [go_sem]; rfl, by simp [go_sem]; rfl, by simp [go_sem]; rfl, by simp [go_sem], by simp [go_sem], fun j => by simp [go_sem], by simp⟩

theorem grown_in {w wr : World} {row : Option Nat} (h : w.grownBy wr row) {a : Addr} (hq : w.heap.size ≤ a.block) (x : Value) : w.grownBy (wr.setCell a x) row := by
  refine ⟨h.os, h.tape, h.output, by rw [World.size_setCell]; exact h.size, fun k hl hne => ?_⟩
  rw [← h.block k hl hne]
  unfold World.setCell
  simp only
  rw [Array.getElem?_modify, if_neg (by omega)]
theorem no_strs (D : Blocks) (w : World) : StrsD D w (.slice none 0 0) [] := ⟨none, 0, rfl, Nat.le_refl _, fun h => by simp at h⟩
theorem no_tys (D : Blocks) (w : World) : TysD D w (.slice none 0 0) [] := ⟨none, 0, rfl, Nat.le_refl _, fun h => by simp at h⟩
/-- The answer is written into its box. -/
theorem finish {w w2 : World} {b X : Nat} {l : Str} {q : Nat} {t0 : Ty} {lv0 kv0 : Value} (hb : b < w.heap.size) (hX : w.heap.size ≤ X) (hg : w.grownBy w2 (some b)) (hR : RBox w2 b l q) (XB : VBox w2 X t0 lv0 kv0) (k s : Int) (n : Str) (ls : List Str) (ks : List Ty) (lv kv : Value)
    (h1 : StrsD (fun k => w.heap.size ≤ k ∧ k ≠ X) w2 lv ls) (h2 : TysD (fun k => w.heap.size ≤ k ∧ k ≠ X) w2 kv ks) :
    VBox (((((w2.setCell ⟨X, 0, none⟩ (.int .i64 k)).setCell ⟨X, 1, none⟩ (.int .i64 s)).setCell ⟨X, 2, none⟩ (.string ⟨n.toArray⟩)).setCell ⟨X, 3, none⟩ lv).setCell ⟨X, 4, none⟩ kv) X (.mk k s n ls ks) lv kv ∧ w.grownBy (((((w2.setCell ⟨X, 0, none⟩ (.int .i64 k)).setCell ⟨X, 1, none⟩ (.int .i64 s)).setCell ⟨X, 2, none⟩ (.string ⟨n.toArray⟩)).setCell ⟨X, 3, none⟩ lv).setCell ⟨X, 4, none⟩ kv) (some b) ∧ RBox (((((w2.setCell ⟨X, 0, none⟩ (.int .i64 k)).setCell ⟨X, 1, none⟩ (.int .i64 s)).setCell ⟨X, 2, none⟩ (.string ⟨n.toArray⟩)).setCell ⟨X, 3, none⟩ lv).setCell ⟨X, 4, none⟩ kv) b l q ∧ TyD (fun k => w.heap.size ≤ k) (((((w2.setCell ⟨X, 0, none⟩ (.int .i64 k)).setCell ⟨X, 1, none⟩ (.int .i64 s)).setCell ⟨X, 2, none⟩ (.string ⟨n.toArray⟩)).setCell ⟨X, 3, none⟩ lv).setCell ⟨X, 4, none⟩ kv) (.agg #[.int .i64 k, .int .i64 s, .string ⟨n.toArray⟩, lv, kv]) (.mk k s n ls ks) := by
  have hne : X ≠ b := by omega
  have hs : Same (fun k => w.heap.size ≤ k ∧ k ≠ X) w2 (((((w2.setCell ⟨X, 0, none⟩ (.int .i64 k)).setCell ⟨X, 1, none⟩ (.int .i64 s)).setCell ⟨X, 2, none⟩ (.string ⟨n.toArray⟩)).setCell ⟨X, 3, none⟩ lv).setCell ⟨X, 4, none⟩ kv) := Same.fill (fun h => h.2 rfl) _ _ _ _ _
  refine ⟨XB.fill (.mk k s n ls ks) lv kv, grown_in (grown_in (grown_in (grown_in (grown_in hg hX _) hX _) hX _) hX _) hX _, ((((hR.far hne _).far hne _).far hne _).far hne _).far hne _, ?_⟩
  exact ⟨lv, kv, rfl, h1.keep hs (fun _ h _ => h.1), h2.keep hs (fun _ h _ => h.1)⟩
theorem finishK {w w7 : World} {b X m : Nat} {l : Str} {q : Nat} {t0 : Ty} {lv0 kv0 : Value} (hb : b < w.heap.size) (hX : w.heap.size ≤ X) (hXm : X < m) (hm : m ≤ w7.heap.size) (hg : w.grownBy w7 (some b)) (hR : RBox w7 b l q) (XB : VBox w7 X t0 lv0 kv0) (k s : Int) (n : Str) (xs : List Value) (ts : List Ty) (hc : Cells5D (fun k => m ≤ k) w7 xs ts) (E : TypeId) :
    VBox ((((((w7.setCell ⟨X, 0, none⟩ (.int .i64 k)).setCell ⟨X, 1, none⟩ (.int .i64 s)).setCell ⟨X, 2, none⟩ (.string ⟨n.toArray⟩)).setCell ⟨X, 3, none⟩ (.slice none 0 0)).setCell ⟨X, 4, none⟩ (.slice (some ⟨w7.heap.size, 0, none⟩) ts.length ts.length)).alloc (.cells xs.toArray E)) X (.mk k s n [] ts) (.slice none 0 0) (.slice (some ⟨w7.heap.size, 0, none⟩) ts.length ts.length) ∧ w.grownBy ((((((w7.setCell ⟨X, 0, none⟩ (.int .i64 k)).setCell ⟨X, 1, none⟩ (.int .i64 s)).setCell ⟨X, 2, none⟩ (.string ⟨n.toArray⟩)).setCell ⟨X, 3, none⟩ (.slice none 0 0)).setCell ⟨X, 4, none⟩ (.slice (some ⟨w7.heap.size, 0, none⟩) ts.length ts.length)).alloc (.cells xs.toArray E)) (some b) ∧ RBox ((((((w7.setCell ⟨X, 0, none⟩ (.int .i64 k)).setCell ⟨X, 1, none⟩ (.int .i64 s)).setCell ⟨X, 2, none⟩ (.string ⟨n.toArray⟩)).setCell ⟨X, 3, none⟩ (.slice none 0 0)).setCell ⟨X, 4, none⟩ (.slice (some ⟨w7.heap.size, 0, none⟩) ts.length ts.length)).alloc (.cells xs.toArray E)) b l q ∧
      TyD (fun k => w.heap.size ≤ k) ((((((w7.setCell ⟨X, 0, none⟩ (.int .i64 k)).setCell ⟨X, 1, none⟩ (.int .i64 s)).setCell ⟨X, 2, none⟩ (.string ⟨n.toArray⟩)).setCell ⟨X, 3, none⟩ (.slice none 0 0)).setCell ⟨X, 4, none⟩ (.slice (some ⟨w7.heap.size, 0, none⟩) ts.length ts.length)).alloc (.cells xs.toArray E)) (.agg #[.int .i64 k, .int .i64 s, .string ⟨n.toArray⟩, .slice none 0 0, .slice (some ⟨w7.heap.size, 0, none⟩) ts.length ts.length]) (.mk k s n [] ts) := by
  have hne : X ≠ b := by omega
  have hs : Same (fun k => m ≤ k) w7 (((((w7.setCell ⟨X, 0, none⟩ (.int .i64 k)).setCell ⟨X, 1, none⟩ (.int .i64 s)).setCell ⟨X, 2, none⟩ (.string ⟨n.toArray⟩)).setCell ⟨X, 3, none⟩ (.slice none 0 0)).setCell ⟨X, 4, none⟩ (.slice (some ⟨w7.heap.size, 0, none⟩) ts.length ts.length)) := Same.fill (by omega) _ _ _ _ _
  have hz : ((((((w7.setCell ⟨X, 0, none⟩ (.int .i64 k)).setCell ⟨X, 1, none⟩ (.int .i64 s)).setCell ⟨X, 2, none⟩ (.string ⟨n.toArray⟩)).setCell ⟨X, 3, none⟩ (.slice none 0 0)).setCell ⟨X, 4, none⟩ (.slice (some ⟨w7.heap.size, 0, none⟩) ts.length ts.length))).heap.size = w7.heap.size := by simp only [World.size_setCell]
  have hV := XB.fill (.mk k s n [] ts) (.slice none 0 0) (.slice (some ⟨w7.heap.size, 0, none⟩) ts.length ts.length)
  have hG : w.grownBy (((((w7.setCell ⟨X, 0, none⟩ (.int .i64 k)).setCell ⟨X, 1, none⟩ (.int .i64 s)).setCell ⟨X, 2, none⟩ (.string ⟨n.toArray⟩)).setCell ⟨X, 3, none⟩ (.slice none 0 0)).setCell ⟨X, 4, none⟩ (.slice (some ⟨w7.heap.size, 0, none⟩) ts.length ts.length)) (some b) := grown_in (grown_in (grown_in (grown_in (grown_in hg hX _) hX _) hX _) hX _) hX _
  have hRR : RBox (((((w7.setCell ⟨X, 0, none⟩ (.int .i64 k)).setCell ⟨X, 1, none⟩ (.int .i64 s)).setCell ⟨X, 2, none⟩ (.string ⟨n.toArray⟩)).setCell ⟨X, 3, none⟩ (.slice none 0 0)).setCell ⟨X, 4, none⟩ (.slice (some ⟨w7.heap.size, 0, none⟩) ts.length ts.length)) b l q := ((((hR.far hne _).far hne _).far hne _).far hne _).far hne _
  simp only [Ty.kind, Ty.sort, Ty.name] at hV
  generalize (((((w7.setCell ⟨X, 0, none⟩ (.int .i64 k)).setCell ⟨X, 1, none⟩ (.int .i64 s)).setCell ⟨X, 2, none⟩ (.string ⟨n.toArray⟩)).setCell ⟨X, 3, none⟩ (.slice none 0 0)).setCell ⟨X, 4, none⟩ (.slice (some ⟨w7.heap.size, 0, none⟩) ts.length ts.length)) = w8 at hs hz hV hG hRR ⊢
  have hbel : Below w8.heap.size w8 (w8.alloc (.cells xs.toArray E)) := (Below.refl _ _).alloc (Nat.le_refl _) _
  refine ⟨hV.keep hbel hV.lt, grown_belowB hG hbel, hRR.keep hbel, _, _, rfl, no_strs _ _, _, _, rfl, Nat.le_refl _, fun _ => ⟨w7.heap.size, 0, rfl, by have := hg.size; omega, ?_⟩⟩
  have h9 : Same (fun k => m ≤ k) w7 (w8.alloc (.cells xs.toArray E)) := hs.trans (by omega) (Same.below hbel)
  refine (hc.keep h9 (fun k hk _ => by show w.heap.size ≤ k; omega)).row 0 fun j u hj => ?_
  rw [Nat.zero_add, World.cell?_alloc_at _ _ _ _ hz.symm]
  simpa using hj
/-- The reader goes on. -/
theorem go_on {w w1 : World} {b X : Nat} {l : Str} {q : Nat} {t0 : Ty} {lv0 kv0 : Value} (hg : w.grownBy w1 (some b)) (hR : RBox w1 b l q) (XB : VBox w1 X t0 lv0 kv0) (hne : ¬ b = X) (n : Nat) :
    w.grownBy (w1.setCell ⟨b, 1, none⟩ (.int .i64 ((q : Int) + n))) (some b) ∧ RBox (w1.setCell ⟨b, 1, none⟩ (.int .i64 ((q : Int) + n))) b l (q + n) ∧ VBox (w1.setCell ⟨b, 1, none⟩ (.int .i64 ((q : Int) + n))) X t0 lv0 kv0 := by
  have e : ((q + n : Nat) : Int) = (q : Int) + n := by omega
  rw [← e]
  exact ⟨grown_trans hg (grown_at _ _ _ _), hR.set (q + n), XB.far hne _⟩

section
variable (l : Str) (b p : Nat) (w : World) (hl : l.length ≤ 2000) (hp : p ≤ l.length) (hR : RBox w b l p)
include hl hp hR
set_option maxHeartbeats 2000000 in
theorem one_end (h : wd l (sk l p) = endW) : Calls Tryd.prog 106 #[.pointer (some ⟨b, 0, none⟩)] w (Ans w b l (.ok (.mk 1 0 [] [] []) (sk l p + 3))) := by
  have hs := sk_le hp
  have hw := wd_le hs.2
  rw [h] at hw
  have hcall := fun w hR => word_any l b p w hl hp hR
  rw [h] at hcall
  generalize sk l p = q at hs hw hcall ⊢
  clear h
  simp only [endW, List.length_cons, List.length_nil] at hw
  have hbw := hR.lt
  go_enter Tryd.func106, Tryd.ntmps106
  go_wp2_with fail
  have XB := new_box w 51
  have hbW : Below w.heap.size w (w.alloc (.cells #[.int .i64 0, .int .i64 0, .string ⟨#[]⟩, .slice none 0 0, .slice none 0 0] 51)) := by go_grown
  have hR0 := hR.keep hbW
  have hg0 := grown_belowB (grown_refl w b) hbW
  generalize w.alloc (.cells #[.int .i64 0, .int .i64 0, .string ⟨#[]⟩, .slice none 0 0, .slice none 0 0] 51) = w0 at XB hR0 hg0 ⊢
  clear hbW hR
  have hne1 : ¬ w.heap.size = b := by omega
  have hne2 : ¬ b = w.heap.size := by omega
  refine (hcall w0 hR0).mono ?_
  rintro e w1 ⟨rfl, hg, hR1⟩
  have hg1 := grown_trans hg0 hg
  replace XB := XB.grown' hg (by omega)
  clear hg hR0 hg0
  obtain ⟨r0, r1, r2, r3⟩ := id hR1
  obtain ⟨x0, x1, x2, x3, x4, x5, x6⟩ := id XB
  go_wp2_with fail
  obtain ⟨hg2, hR2, XB2⟩ := go_on hg1 hR1 XB hne2 3
  rw [show ((3 : Nat) : Int) = 3 from rfl] at hg2 hR2 XB2
  generalize w1.setCell ⟨b, 1, none⟩ (.int .i64 ((q : Int) + 3)) = w2 at hg2 hR2 XB2 ⊢
  obtain ⟨hF, hgF, hRF, hT⟩ := finish hbw (Nat.le_refl _) hg2 hR2 XB2 (1) 0 [] [] [] (.slice none 0 0) (.slice none 0 0) (no_strs _ _) (no_tys _ _)
  generalize (((((w2.setCell ⟨w.heap.size, 0, none⟩ (.int .i64 1)).setCell ⟨w.heap.size, 1, none⟩ (.int .i64 0)).setCell ⟨w.heap.size, 2, none⟩ (.string ⟨#[]⟩)).setCell ⟨w.heap.size, 3, none⟩ (.slice none 0 0)).setCell ⟨w.heap.size, 4, none⟩ (.slice none 0 0)) = w5 at hF hgF hRF hT ⊢
  obtain ⟨d0, d1, d2, d3, d4, d5, d6⟩ := hF
  refine bodyPost_ret (v := .agg #[.int .i64 (1), .int .i64 0, .string ⟨([] : Str).toArray⟩, .slice none 0 0, .slice none 0 0]) (by simp [results, Tryd.results106, go_sem, d0, d1, d2, d3, d4, Ty.kind, Ty.sort, Ty.name]) rfl ?_
  exact ⟨hgF, _, rfl, hT, hRF⟩
set_option maxHeartbeats 2000000 in
theorem one_var (W : Str) (h : wd l (sk l p) = W) (h1 : W ≠ endW) (h2 : W ≠ recW) (h3 : isVar W = true) : Calls Tryd.prog 106 #[.pointer (some ⟨b, 0, none⟩)] w (Ans w b l (.ok (.mk 9 0 W [] []) (sk l p + W.length))) := by
  have hs := sk_le hp
  have hw := wd_le hs.2
  rw [h] at hw
  have hcall := fun w hR => word_any l b p w hl hp hR
  rw [h] at hcall
  generalize sk l p = q at hs hw hcall ⊢
  clear h
  have H3 := Lib.hid h3; clear h3
  have n1 : (W == [101, 110, 100]) = false := by simpa [endW] using h1
  have n2 : (W == [114, 101, 99]) = false := by simpa [recW] using h2
  have hbw := hR.lt
  go_enter Tryd.func106, Tryd.ntmps106
  go_wp2_with fail
  have XB := new_box w 51
  have hbW : Below w.heap.size w (w.alloc (.cells #[.int .i64 0, .int .i64 0, .string ⟨#[]⟩, .slice none 0 0, .slice none 0 0] 51)) := by go_grown
  have hR0 := hR.keep hbW
  have hg0 := grown_belowB (grown_refl w b) hbW
  generalize w.alloc (.cells #[.int .i64 0, .int .i64 0, .string ⟨#[]⟩, .slice none 0 0, .slice none 0 0] 51) = w0 at XB hR0 hg0 ⊢
  clear hbW hR
  have hne1 : ¬ w.heap.size = b := by omega
  have hne2 : ¬ b = w.heap.size := by omega
  refine (hcall w0 hR0).mono ?_
  rintro e w1 ⟨rfl, hg, hR1⟩
  have hg1 := grown_trans hg0 hg
  replace XB := XB.grown' hg (by omega)
  clear hg hR0 hg0
  obtain ⟨r0, r1, r2, r3⟩ := id hR1
  obtain ⟨x0, x1, x2, x3, x4, x5, x6⟩ := id XB
  go_wp2_with fail
  refine (isVar_any W _ (by omega)).mono ?_; rw [H3.out]; rintro e w2 ⟨rfl, hb2⟩
  replace XB := XB.keep hb2 XB.lt
  replace hR1 := hR1.keep hb2
  replace hg1 := grown_belowB hg1 hb2
  clear r0 r1 r2 r3 x0 x1 x2 x3 x4 x5 x6 hb2
  clear w1
  obtain ⟨r0, r1, r2, r3⟩ := id hR1
  obtain ⟨x0, x1, x2, x3, x4, x5, x6⟩ := id XB
  go_wp2_with fail
  obtain ⟨hg2, hR2, XB2⟩ := go_on hg1 hR1 XB hne2 W.length
  skip
  generalize w2.setCell ⟨b, 1, none⟩ (.int .i64 ((q : Int) + W.length)) = w3 at hg2 hR2 XB2 ⊢
  obtain ⟨hF, hgF, hRF, hT⟩ := finish hbw (Nat.le_refl _) hg2 hR2 XB2 (9) 0 W [] [] (.slice none 0 0) (.slice none 0 0) (no_strs _ _) (no_tys _ _)
  generalize (((((w3.setCell ⟨w.heap.size, 0, none⟩ (.int .i64 9)).setCell ⟨w.heap.size, 1, none⟩ (.int .i64 0)).setCell ⟨w.heap.size, 2, none⟩ (.string ⟨W.toArray⟩)).setCell ⟨w.heap.size, 3, none⟩ (.slice none 0 0)).setCell ⟨w.heap.size, 4, none⟩ (.slice none 0 0)) = w5 at hF hgF hRF hT ⊢
  obtain ⟨d0, d1, d2, d3, d4, d5, d6⟩ := hF
  refine bodyPost_ret (v := .agg #[.int .i64 (9), .int .i64 0, .string ⟨(W : Str).toArray⟩, .slice none 0 0, .slice none 0 0]) (by simp [results, Tryd.results106, go_sem, d0, d1, d2, d3, d4, Ty.kind, Ty.sort, Ty.name]) rfl ?_
  exact ⟨hgF, _, rfl, hT, hRF⟩
set_option maxHeartbeats 2000000 in
theorem one_rec (S : World → Prop) (hSk : ∀ w w' : World, S w → w.grownBy w' (some b) → S w') (hS : S w) (n : Nat) (ih : ∀ (p : Nat) (w : World), p ≤ l.length → l.length < n + p → S w → RBox w b l p → Calls Tryd.prog 106 #[.pointer (some ⟨b, 0, none⟩)] w (Ans w b l (rdOne l n p))) (hn : l.length < n + 1 + p) (h : wd l (sk l p) = recW) : Calls Tryd.prog 106 #[.pointer (some ⟨b, 0, none⟩)] w (Ans w b l (if isVar (wd l (sk l (sk l p + 3))) = false then .bad (sk l (sk l p + 3)) else (rdSign l 46 (sk l (sk l p + 3) + (wd l (sk l (sk l p + 3))).length)).seq fun _ p2 => (rdOne l n p2).seq fun t p3 => .ok (.mk 8 0 (wd l (sk l (sk l p + 3))) [] [t]) p3)) := by
  have hs := sk_le hp
  have hw := wd_le hs.2
  rw [h] at hw
  simp only [recW, List.length_cons, List.length_nil] at hw
  have hcall := fun w hR => word_any l b p w hl hp hR
  rw [h] at hcall
  generalize sk l p = q at hs hw hcall ⊢
  clear h
  have hs1 := sk_le (l := l) (p := q + 3) hw
  have hcall1 := fun w hR => word_any l b (q + 3) w hl hw hR
  generalize sk l (q + 3) = q1 at hs1 hcall1 ⊢
  have hw1 := wd_le hs1.2
  generalize wd l q1 = nm at hcall1 hw1 ⊢
  obtain ⟨RES, hRES⟩ : ∃ r, (if isVar nm = false then .bad q1 else (rdSign l 46 (q1 + nm.length)).seq fun _ p2 => (rdOne l n p2).seq fun t p3 => .ok (.mk 8 0 nm [] [t]) p3 : Rd Ty) = r := ⟨_, rfl⟩
  rw [hRES]
  have HRES := Lib.hid hRES; clear hRES
  have hbw := hR.lt
  go_enter Tryd.func106, Tryd.ntmps106
  go_wp2_with fail
  have XB := new_box w 51
  have hbW : Below w.heap.size w (w.alloc (.cells #[.int .i64 0, .int .i64 0, .string ⟨#[]⟩, .slice none 0 0, .slice none 0 0] 51)) := by go_grown
  have hR0 := hR.keep hbW
  have hg0 := grown_belowB (grown_refl w b) hbW
  generalize w.alloc (.cells #[.int .i64 0, .int .i64 0, .string ⟨#[]⟩, .slice none 0 0, .slice none 0 0] 51) = w0 at XB hR0 hg0 ⊢
  clear hbW hR
  have hne1 : ¬ w.heap.size = b := by omega
  have hne2 : ¬ b = w.heap.size := by omega
  refine (hcall w0 hR0).mono ?_
  rintro e w1 ⟨rfl, hg, hR1⟩
  have hg1 := grown_trans hg0 hg
  replace XB := XB.grown' hg (by omega)
  clear hg hR0 hg0
  obtain ⟨r0, r1, r2, r3⟩ := id hR1
  obtain ⟨x0, x1, x2, x3, x4, x5, x6⟩ := id XB
  go_wp2_with fail
  obtain ⟨hg2, hR2, XB2⟩ := go_on hg1 hR1 XB hne2 3
  rw [show ((3 : Nat) : Int) = 3 from rfl] at hg2 hR2 XB2
  generalize w1.setCell ⟨b, 1, none⟩ (.int .i64 ((q : Int) + 3)) = w2 at hg2 hR2 XB2 ⊢
  replace XB := XB2
  clear hcall hR1 hg1 r0 r1 r2 r3 x0 x1 x2 x3 x4 x5 x6 XB2
  clear w1
  refine (hcall1 w2 hR2).mono ?_; clear hcall1
  rintro e w3 ⟨rfl, hg, hR3⟩
  have hg3 := grown_trans hg2 hg
  replace XB := XB.grown' hg (by omega)
  clear hg hR2 hg2
  clear w2
  go_wp2_with fail
  cases hv : isVar nm with
  | false =>
    have HV := Lib.hid hv; clear hv
    refine (isVar_any nm _ (by omega)).mono ?_; rw [HV.out]; rintro e w4 ⟨rfl, hb4⟩
    replace XB := XB.keep hb4 XB.lt
    have hR4 := hR3.keep hb4
    have hg4 := grown_belowB hg3 hb4
    clear hb4 hR3 hg3
    clear w3
    obtain ⟨r0, r1, r2, r3⟩ := id hR4
    obtain ⟨x0, x1, x2, x3, x4, x5, x6⟩ := id XB
    go_wp2_with fail
    refine (fail_any l b q1 w4 hR4).mono ?_
    rintro e w5 ⟨rfl, hg5⟩
    refine ⟨rfl, ?_⟩
    rw [← HRES.out, HV.out, if_pos rfl]
    exact ⟨grown_trans hg4 hg5, rfl⟩
  | true =>
    have HV := Lib.hid hv; clear hv
    refine (isVar_any nm _ (by omega)).mono ?_; rw [HV.out]; rintro e w4 ⟨rfl, hb4⟩
    replace XB := XB.keep hb4 XB.lt
    have hR4 := hR3.keep hb4
    have hg4 := grown_belowB hg3 hb4
    clear hb4 hR3 hg3
    clear w3
    obtain ⟨r0, r1, r2, r3⟩ := id hR4
    obtain ⟨x0, x1, x2, x3, x4, x5, x6⟩ := id XB
    go_wp2_with fail
    have hadd : ((q1 + nm.length : Nat) : Int) = (q1 : Int) + (nm.length : Int) := by omega
    obtain ⟨hg5, hR5, XB5⟩ := go_on hg4 hR4 XB hne2 nm.length
    generalize w4.setCell ⟨b, 1, none⟩ (.int .i64 ((q1 : Int) + nm.length)) = w5 at hg5 hR5 XB5 ⊢
    clear hg4 hR4 XB x0 x1 x2 x3 x4 x5 x6 r0 r1 r2 r3
    clear w4
    by_cases hsg : l[sk l (q1 + nm.length)]? = some 46
    · have hsl := sk_le (l := l) (p := q1 + nm.length) hw1
      refine (sign_ok l b (q1 + nm.length) 46 w5 hl hw1 hR5 hsg).mono ?_
      rintro e w6 ⟨rfl, hg, hR6⟩
      have hlt := at_lt hsg
      have hg6 := grown_trans hg5 hg
      have XB6 := XB5.grown' hg (by omega)
      have HSG := Lib.hid hsg
      clear hg hR5 hg5 XB5 hsg
      clear w5
      obtain ⟨r0, r1, r2, r3⟩ := id hR6
      obtain ⟨x0, x1, x2, x3, x4, x5, x6⟩ := id XB6
      go_wp2_with fail
      have hS6 := hSk w w6 hS hg6
      refine (ih (sk l (q1 + nm.length) + 1) w6 (by omega) (by omega) hS6 hR6).mono ?_
      rintro e w7 ⟨hg, hans⟩
      have hg7 := grown_trans hg6 hg
      have XB7 := XB6.grown' hg (by omega)
      have hres : (rdOne l n (sk l (q1 + nm.length) + 1)).seq (fun t p3 => .ok (.mk 8 0 nm [] [t]) p3) = RES := by
        rw [← HRES.out, HV.out, if_neg (by simp), rdSign, if_pos HSG.out]; rfl
      have hsz : w.heap.size ≤ w6.heap.size := hg6.size
      cases hr : rdOne l n (sk l (q1 + nm.length) + 1) with
      | bad q' =>
        rw [hr] at hans hres
        simp only at hans
        subst hans
        refine ⟨rfl, ?_⟩
        rw [← hres]
        exact ⟨hg7, rfl⟩
      | ok t p3 =>
        rw [hr] at hans hres
        obtain ⟨v, rfl, hT, hR7⟩ := hans
        have HR2 : Hid (Rd.ok (.mk 8 0 nm [] [t]) p3 = RES) := Lib.hid hres
        have hlt6 := XB6.lt
        have hg67 := hg
        clear hg hR6 hg6 XB6 hres hr HRES
        clear x0 x1 x2 x3 x4 x5 x6 r0 r1 r2 r3
        obtain ⟨lv, kv, rfl, h1, h2⟩ := hT
        have H1 := Lib.hid h1; have H2 := Lib.hid h2
        obtain ⟨A1, c1, rfl, -, -⟩ := h1
        obtain ⟨A2, c2, rfl, -, -⟩ := h2
        obtain ⟨r0, r1, r2, r3⟩ := id hR7
        obtain ⟨x0, x1, x2, x3, x4, x5, x6⟩ := id XB7
        go_wp2_with fail
        obtain ⟨hF, hgF, hRF, hT⟩ := finishK hbw (Nat.le_refl _) (m := w6.heap.size) hlt6 hg67.size hg7 hR7 XB7 8 0 nm _ [t] (.cons t _ _ [] [] H1.out H2.out .nil) 51
        simp only [List.length_cons, List.length_nil] at hF hgF hRF hT
        generalize ((((((w7.setCell ⟨w.heap.size, 0, none⟩ (.int .i64 8)).setCell ⟨w.heap.size, 1, none⟩ (.int .i64 0)).setCell ⟨w.heap.size, 2, none⟩ (.string ⟨nm.toArray⟩)).setCell ⟨w.heap.size, 3, none⟩ (.slice none 0 0)).setCell ⟨w.heap.size, 4, none⟩ (.slice (some ⟨w7.heap.size, 0, none⟩) 1 1)).alloc _) = w9 at hF hgF hRF hT ⊢
        obtain ⟨d0, d1, d2, d3, d4, d5, d6⟩ := hF
        refine bodyPost_ret (v := .agg #[.int .i64 8, .int .i64 0, .string ⟨nm.toArray⟩, .slice none 0 0, .slice (some ⟨w7.heap.size, 0, none⟩) 1 1]) (by simp [results, Tryd.results106, go_sem, d0, d1, d2, d3, d4, Ty.kind, Ty.sort, Ty.name]) rfl ?_
        refine ⟨hgF, ?_⟩
        rw [← HR2.out]
        exact ⟨_, rfl, hT, hRF⟩
    · refine (sign_bad l b (q1 + nm.length) 46 w5 hl hw1 hR5 hsg).mono ?_
      rintro e w6 ⟨rfl, hg6⟩
      refine ⟨rfl, ?_⟩
      rw [← HRES.out, HV.out, if_neg (by simp), rdSign, if_neg hsg]
      exact ⟨grown_trans hg5 hg6, rfl⟩
end
end Go.Proofs.YtcacembpegoghaaDoor
