/-
  The program's reader of conversations: one, by cases of what stands there.
-/
import Derived.Test.YtcacembpegoghaaDoorGlR
import Derived.Test.YtcacembpegoghaaDoorHeld
namespace Go.Proofs.YtcacembpegoghaaDoor
open Go.RowKit Go.Proofs

set_option maxRecDepth 100000
section
variable (l : Str) (b p : Nat) (w : World) (hl : l.length ≤ 2000) (hp : p ≤ l.length) (hR : RBox w b l p)
include hl hp hR
set_option maxHeartbeats 2000000 in
theorem gone_end (h : wd l (sk l p) = endW) : Calls Tryd.prog 95 #[.pointer (some ⟨b, 0, none⟩)] w (GAns w b l (.ok (.mk 1 [] [] 0 [] [] []) (sk l p + 3))) := by
  have hN : isName (wd l (sk l p)) = true := by rw [h]; decide
  have hs := sk_le hp
  have hw := wd_le hs.2
  have hcall := fun w hR => gword_ok isName 110 #[] (fun _ _ => by kernel_rfl) l b p w hl hp hR (fun x w' hx _ => isName_any x w' (by omega)) hN
  rw [h] at hw hcall
  generalize sk l p = q at hs hw hcall ⊢
  clear h hN
  simp only [endW, List.length_cons, List.length_nil] at hw hcall
  have hbw := hR.lt
  have hmf : ∀ (fn : Fn) (first cap : Array Value) (w : World), (Instr.makeFunc fn first cap).run Tryd.prog w = .ok (.func fn first cap) w := fun _ _ _ _ => rfl
  go_enter Tryd.func95, Tryd.ntmps95
  go_wp2_with fail
  have hbW : Below w.heap.size w (w.alloc (.cells #[.int .i64 0, .string ⟨#[]⟩, .string ⟨#[]⟩, .int .i64 0, .string ⟨#[]⟩, .slice none 0 0, .slice none 0 0] 42)) := by go_grown
  have XB := new_gval w zeroGl (.slice none 0 0) (.slice none 0 0) 42
  simp only [zeroGl, Gl.kind, Gl.frm, Gl.rcv, Gl.sort, Gl.name] at XB
  have hR0 := hR.keep hbW
  have hg0 := grown_belowB (grown_refl w b) hbW
  generalize w.alloc (.cells #[.int .i64 0, .string ⟨#[]⟩, .string ⟨#[]⟩, .int .i64 0, .string ⟨#[]⟩, .slice none 0 0, .slice none 0 0] 42) = w0 at XB hR0 hg0 ⊢
  clear hbW hR
  have hne1 : ¬ w.heap.size = b := by omega
  have hne2 : ¬ b = w.heap.size := by omega
  refine (hcall w0 hR0).mono ?_; clear hcall
  rintro e w1 ⟨rfl, hg, hR1⟩
  have hg1 := grown_trans hg0 hg
  replace XB := XB.grown' hg (by omega)
  clear hg hR0 hg0
  clear w0
  rename_i Kx hkx Ky hky
  have HKX := Lib.hid hkx
  clear hkx
  go_wp2_with fail
  have hbN : Below w1.heap.size w1 (w1.alloc (.cells #[.string ⟨#[101, 110, 100]⟩] 9)) := (Below.refl _ _).alloc (Nat.le_refl _) _
  have NB := OBox.new w1 (.string ⟨#[101, 110, 100]⟩) 9
  have XB2 := XB.keep hbN XB.lt
  have hR2 := hR1.keep hbN
  have hg2 := grown_belowB hg1 hbN
  have hXl := XB.lt
  have hbl := hR1.lt
  generalize w1.alloc (.cells #[.string ⟨#[101, 110, 100]⟩] 9) = w2 at NB XB2 hR2 hg2 ⊢
  clear hbN XB hR1 hg1
  generalize w1.heap.size = N at NB hXl hbl ⊢
  clear w1
  have hn1 : ¬ N = b := by omega
  have hn2 : ¬ b = N := by omega
  have hn3 : ¬ N = w.heap.size := by omega
  have hn4 : ¬ w.heap.size = N := by omega
  refine HKX.out _ _ ?_
  clear HKX
  clear hXl hbl
  obtain ⟨n0, n1⟩ := id NB
  obtain ⟨x0, x1, x2, x3, x4, x5, x6, x7, x8⟩ := id XB2
  go_wp2_with fail
  obtain ⟨hF, hgF, hRF, hT⟩ := gfinish hbw (Nat.le_refl _) hg2 hR2 XB2 1 [] [] 0 [] [] [] (.slice none 0 0) (.slice none 0 0) (no_strs' _ _) (no_gls _ _)
  generalize (((((((w2.setCell ⟨w.heap.size, 0, none⟩ (.int .i64 1)).setCell ⟨w.heap.size, 1, none⟩ (.string ⟨#[]⟩)).setCell ⟨w.heap.size, 2, none⟩ (.string ⟨#[]⟩)).setCell ⟨w.heap.size, 3, none⟩ (.int .i64 0)).setCell ⟨w.heap.size, 4, none⟩ (.string ⟨#[]⟩)).setCell ⟨w.heap.size, 5, none⟩ (.slice none 0 0)).setCell ⟨w.heap.size, 6, none⟩ (.slice none 0 0)) = wF at hF hgF hRF hT ⊢
  obtain ⟨d0, d1, d2, d3, d4, d5, d6, d7, d8⟩ := hF
  refine bodyPost_ret (v := .agg #[.int .i64 1, .string ⟨#[]⟩, .string ⟨#[]⟩, .int .i64 0, .string ⟨#[]⟩, .slice none 0 0, .slice none 0 0]) (by simp [results, Tryd.results95, go_sem, d0, d1, d2, d3, d4, d5, d6, Gl.kind, Gl.frm, Gl.rcv, Gl.sort, Gl.name]) rfl ?_
  exact ⟨hgF, _, rfl, hT, hRF⟩
set_option maxHeartbeats 2000000 in
theorem gone_bad (h : isName (wd l (sk l p)) = false) : Calls Tryd.prog 95 #[.pointer (some ⟨b, 0, none⟩)] w (GAns w b l (.bad (sk l p))) := by
  have hcall := fun w hR => gword_bad isName 110 #[] (fun _ _ => by kernel_rfl) l b p w hl hp hR (fun x w' hx _ => isName_any x w' (by omega)) h
  generalize sk l p = q at hcall ⊢
  clear h
  have hbw := hR.lt
  have hmf : ∀ (fn : Fn) (first cap : Array Value) (w : World), (Instr.makeFunc fn first cap).run Tryd.prog w = .ok (.func fn first cap) w := fun _ _ _ _ => rfl
  go_enter Tryd.func95, Tryd.ntmps95
  go_wp2_with fail
  have hbW : Below w.heap.size w (w.alloc (.cells #[.int .i64 0, .string ⟨#[]⟩, .string ⟨#[]⟩, .int .i64 0, .string ⟨#[]⟩, .slice none 0 0, .slice none 0 0] 42)) := by go_grown
  have XB := new_gval w zeroGl (.slice none 0 0) (.slice none 0 0) 42
  simp only [zeroGl, Gl.kind, Gl.frm, Gl.rcv, Gl.sort, Gl.name] at XB
  have hR0 := hR.keep hbW
  have hg0 := grown_belowB (grown_refl w b) hbW
  generalize w.alloc (.cells #[.int .i64 0, .string ⟨#[]⟩, .string ⟨#[]⟩, .int .i64 0, .string ⟨#[]⟩, .slice none 0 0, .slice none 0 0] 42) = w0 at XB hR0 hg0 ⊢
  clear hbW hR
  have hne1 : ¬ w.heap.size = b := by omega
  have hne2 : ¬ b = w.heap.size := by omega
  refine (hcall w0 hR0).mono ?_
  rintro e w1 ⟨rfl, hg⟩
  exact ⟨rfl, grown_trans hg0 hg, rfl⟩
set_option maxHeartbeats 2000000 in
theorem gone_var (W : Str) (h : wd l (sk l p) = W) (hN : isName (wd l (sk l p)) = true) (h1 : W ≠ endW) (h2 : W ≠ recW) (hs62 : ¬ l[sk l (sk l p + W.length)]? = some 62) : Calls Tryd.prog 95 #[.pointer (some ⟨b, 0, none⟩)] w (GAns w b l (.ok (.mk 9 [] [] 0 W [] []) (sk l (sk l p + W.length)))) := by
  have h62 : decide (l[sk l (sk l p + W.length)]? = some 62) = false := by simpa using hs62
  clear hs62
  have hs := sk_le hp
  have hw := wd_le hs.2
  have hcall := fun w hR => gword_ok isName 110 #[] (fun _ _ => by kernel_rfl) l b p w hl hp hR (fun x w' hx _ => isName_any x w' (by omega)) hN
  rw [h] at hw hcall
  generalize sk l p = q at hs hw hcall h62 ⊢
  clear h hN
  have e1 : (W == [101, 110, 100]) = false := by simpa [endW] using h1
  have e2 : (W == [114, 101, 99]) = false := by simpa [recW] using h2
  have hsQ := sk_le (l := l) (p := q + W.length) hw
  have hcal := fun w2 hR2 => gis_any l b (q + W.length) 62 w2 hl hw hR2
  rw [h62] at hcal
  generalize sk l (q + W.length) = Q at hsQ hcal ⊢
  clear h62
  have hbw := hR.lt
  have hmf : ∀ (fn : Fn) (first cap : Array Value) (w : World), (Instr.makeFunc fn first cap).run Tryd.prog w = .ok (.func fn first cap) w := fun _ _ _ _ => rfl
  go_enter Tryd.func95, Tryd.ntmps95
  go_wp2_with fail
  have hbW : Below w.heap.size w (w.alloc (.cells #[.int .i64 0, .string ⟨#[]⟩, .string ⟨#[]⟩, .int .i64 0, .string ⟨#[]⟩, .slice none 0 0, .slice none 0 0] 42)) := by go_grown
  have XB := new_gval w zeroGl (.slice none 0 0) (.slice none 0 0) 42
  simp only [zeroGl, Gl.kind, Gl.frm, Gl.rcv, Gl.sort, Gl.name] at XB
  have hR0 := hR.keep hbW
  have hg0 := grown_belowB (grown_refl w b) hbW
  generalize w.alloc (.cells #[.int .i64 0, .string ⟨#[]⟩, .string ⟨#[]⟩, .int .i64 0, .string ⟨#[]⟩, .slice none 0 0, .slice none 0 0] 42) = w0 at XB hR0 hg0 ⊢
  clear hbW hR
  have hne1 : ¬ w.heap.size = b := by omega
  have hne2 : ¬ b = w.heap.size := by omega
  refine (hcall w0 hR0).mono ?_; clear hcall
  rintro e w1 ⟨rfl, hg, hR1⟩
  have hg1 := grown_trans hg0 hg
  replace XB := XB.grown' hg (by omega)
  clear hg hR0 hg0
  clear w0
  rename_i Kx hkx Ky hky
  have HKX := Lib.hid hkx
  clear hkx
  go_wp2_with fail
  have hbN : Below w1.heap.size w1 (w1.alloc (.cells #[.string ⟨W.toArray⟩] 9)) := (Below.refl _ _).alloc (Nat.le_refl _) _
  have NB := OBox.new w1 (.string ⟨W.toArray⟩) 9
  have XB2 := XB.keep hbN XB.lt
  have hR2 := hR1.keep hbN
  have hg2 := grown_belowB hg1 hbN
  have hXl := XB.lt
  have hbl := hR1.lt
  generalize w1.alloc (.cells #[.string ⟨W.toArray⟩] 9) = w2 at NB XB2 hR2 hg2 ⊢
  clear hbN XB hR1 hg1
  generalize w1.heap.size = N at NB hXl hbl ⊢
  clear w1
  have hn1 : ¬ N = b := by omega
  have hn2 : ¬ b = N := by omega
  have hn3 : ¬ N = w.heap.size := by omega
  have hn4 : ¬ w.heap.size = N := by omega
  refine HKX.out _ _ ?_
  clear HKX
  clear hXl hbl
  obtain ⟨n0, n1⟩ := id NB
  obtain ⟨x0, x1, x2, x3, x4, x5, x6, x7, x8⟩ := id XB2
  go_wp2_with fail
  refine (hcal w2 hR2).mono ?_; clear hcal
  rintro e w3 ⟨rfl, hg, hR3⟩
  have hg3 := grown_trans hg2 hg
  have XB3 := XB2.grown' hg (by omega)
  have NB3 := NB.grown' hg (by omega)
  clear hg hR2 hg2 XB2 NB n0 n1 x0 x1 x2 x3 x4 x5 x6 x7 x8
  clear w2
  obtain ⟨n0, n1⟩ := id NB3
  obtain ⟨x0, x1, x2, x3, x4, x5, x6, x7, x8⟩ := id XB3
  go_wp2_with fail
  obtain ⟨hF, hgF, hRF, hT⟩ := gfinish hbw (Nat.le_refl _) hg3 hR3 XB3 9 [] [] 0 W [] [] (.slice none 0 0) (.slice none 0 0) (no_strs' _ _) (no_gls _ _)
  generalize (((((((w3.setCell ⟨w.heap.size, 0, none⟩ (.int .i64 9)).setCell ⟨w.heap.size, 1, none⟩ (.string ⟨#[]⟩)).setCell ⟨w.heap.size, 2, none⟩ (.string ⟨#[]⟩)).setCell ⟨w.heap.size, 3, none⟩ (.int .i64 0)).setCell ⟨w.heap.size, 4, none⟩ (.string ⟨W.toArray⟩)).setCell ⟨w.heap.size, 5, none⟩ (.slice none 0 0)).setCell ⟨w.heap.size, 6, none⟩ (.slice none 0 0)) = wF at hF hgF hRF hT ⊢
  obtain ⟨d0, d1, d2, d3, d4, d5, d6, d7, d8⟩ := hF
  refine bodyPost_ret (v := .agg #[.int .i64 9, .string ⟨#[]⟩, .string ⟨#[]⟩, .int .i64 0, .string ⟨W.toArray⟩, .slice none 0 0, .slice none 0 0]) (by simp [results, Tryd.results95, go_sem, d0, d1, d2, d3, d4, d5, d6, Gl.kind, Gl.frm, Gl.rcv, Gl.sort, Gl.name]) rfl ?_
  exact ⟨hgF, _, rfl, hT, hRF⟩
set_option maxHeartbeats 2000000 in
theorem gone_norole (W : Str) (h : wd l (sk l p) = W) (hN : isName (wd l (sk l p)) = true) (h1 : W ≠ endW) (h2 : W ≠ recW) (hs62 : l[sk l (sk l p + W.length)]? = some 62) (hro : isRole W = false) : Calls Tryd.prog 95 #[.pointer (some ⟨b, 0, none⟩)] w (GAns w b l (.bad (sk l (sk l p + W.length)))) := by
  have HR := Lib.hid hro; clear hro
  have h62 : decide (l[sk l (sk l p + W.length)]? = some 62) = true := by simpa using hs62
  clear hs62
  have hs := sk_le hp
  have hw := wd_le hs.2
  have hcall := fun w hR => gword_ok isName 110 #[] (fun _ _ => by kernel_rfl) l b p w hl hp hR (fun x w' hx _ => isName_any x w' (by omega)) hN
  rw [h] at hw hcall
  generalize sk l p = q at hs hw hcall h62 ⊢
  clear h hN
  have e1 : (W == [101, 110, 100]) = false := by simpa [endW] using h1
  have e2 : (W == [114, 101, 99]) = false := by simpa [recW] using h2
  have hsQ := sk_le (l := l) (p := q + W.length) hw
  have hcal := fun w2 hR2 => gis_any l b (q + W.length) 62 w2 hl hw hR2
  rw [h62] at hcal
  generalize sk l (q + W.length) = Q at hsQ hcal ⊢
  clear h62
  have hbw := hR.lt
  have hmf : ∀ (fn : Fn) (first cap : Array Value) (w : World), (Instr.makeFunc fn first cap).run Tryd.prog w = .ok (.func fn first cap) w := fun _ _ _ _ => rfl
  go_enter Tryd.func95, Tryd.ntmps95
  go_wp2_with fail
  have hbW : Below w.heap.size w (w.alloc (.cells #[.int .i64 0, .string ⟨#[]⟩, .string ⟨#[]⟩, .int .i64 0, .string ⟨#[]⟩, .slice none 0 0, .slice none 0 0] 42)) := by go_grown
  have XB := new_gval w zeroGl (.slice none 0 0) (.slice none 0 0) 42
  simp only [zeroGl, Gl.kind, Gl.frm, Gl.rcv, Gl.sort, Gl.name] at XB
  have hR0 := hR.keep hbW
  have hg0 := grown_belowB (grown_refl w b) hbW
  generalize w.alloc (.cells #[.int .i64 0, .string ⟨#[]⟩, .string ⟨#[]⟩, .int .i64 0, .string ⟨#[]⟩, .slice none 0 0, .slice none 0 0] 42) = w0 at XB hR0 hg0 ⊢
  clear hbW hR
  have hne1 : ¬ w.heap.size = b := by omega
  have hne2 : ¬ b = w.heap.size := by omega
  refine (hcall w0 hR0).mono ?_; clear hcall
  rintro e w1 ⟨rfl, hg, hR1⟩
  have hg1 := grown_trans hg0 hg
  replace XB := XB.grown' hg (by omega)
  clear hg hR0 hg0
  clear w0
  rename_i Kx hkx Ky hky
  have HKX := Lib.hid hkx
  clear hkx
  go_wp2_with fail
  have hbN : Below w1.heap.size w1 (w1.alloc (.cells #[.string ⟨W.toArray⟩] 9)) := (Below.refl _ _).alloc (Nat.le_refl _) _
  have NB := OBox.new w1 (.string ⟨W.toArray⟩) 9
  have XB2 := XB.keep hbN XB.lt
  have hR2 := hR1.keep hbN
  have hg2 := grown_belowB hg1 hbN
  have hXl := XB.lt
  have hbl := hR1.lt
  generalize w1.alloc (.cells #[.string ⟨W.toArray⟩] 9) = w2 at NB XB2 hR2 hg2 ⊢
  clear hbN XB hR1 hg1
  generalize w1.heap.size = N at NB hXl hbl ⊢
  clear w1
  have hn1 : ¬ N = b := by omega
  have hn2 : ¬ b = N := by omega
  have hn3 : ¬ N = w.heap.size := by omega
  have hn4 : ¬ w.heap.size = N := by omega
  refine HKX.out _ _ ?_
  clear HKX
  clear hXl hbl
  obtain ⟨n0, n1⟩ := id NB
  obtain ⟨x0, x1, x2, x3, x4, x5, x6, x7, x8⟩ := id XB2
  go_wp2_with fail
  refine (hcal w2 hR2).mono ?_; clear hcal
  rintro e w3 ⟨rfl, hg, hR3⟩
  have hg3 := grown_trans hg2 hg
  have XB3 := XB2.grown' hg (by omega)
  have NB3 := NB.grown' hg (by omega)
  clear hg hR2 hg2 XB2 NB n0 n1 x0 x1 x2 x3 x4 x5 x6 x7 x8
  clear w2
  obtain ⟨n0, n1⟩ := id NB3
  obtain ⟨x0, x1, x2, x3, x4, x5, x6, x7, x8⟩ := id XB3
  go_wp2_with fail
  refine (isRole_any W w3 (by omega)).mono ?_; rw [HR.out]; rintro e w4 ⟨rfl, hb4⟩
  have XB4 := XB3.keep hb4 XB3.lt
  have NB4 := NB3.keep hb4
  have hR4 := hR3.keep hb4
  have hg4 := grown_belowB hg3 hb4
  clear hb4 hR3 hg3 XB3 NB3 n0 n1 x0 x1 x2 x3 x4 x5 x6 x7 x8
  clear w3
  go_wp2_with fail
  refine (gfail_any l b Q w4 hR4).mono ?_
  rintro e w5 ⟨rfl, hg5⟩
  exact ⟨rfl, grown_trans hg4 hg5, rfl⟩
set_option maxHeartbeats 2000000 in
theorem gone_rec (S : World → Prop) (hSk : ∀ w w' : World, S w → w.grownBy w' (some b) → S w') (hS : S w) (n : Nat) (ih : ∀ (p : Nat) (w : World), p ≤ l.length → l.length < n + p → S w → RBox w b l p → Calls Tryd.prog 95 #[.pointer (some ⟨b, 0, none⟩)] w (GAns w b l (gdOne l n p))) (hn : l.length < n + 1 + p) (h : wd l (sk l p) = recW) : Calls Tryd.prog 95 #[.pointer (some ⟨b, 0, none⟩)] w (GAns w b l (if isVar (wd l (sk l (sk l p + 3))) = false then .bad (sk l (sk l p + 3)) else (rdSign l 46 (sk l (sk l p + 3) + (wd l (sk l (sk l p + 3))).length)).seq fun _ p2 => (gdOne l n p2).seq fun t p3 => .ok (.mk 8 [] [] 0 (wd l (sk l (sk l p + 3))) [] [t]) p3)) := by
  have hN : isName (wd l (sk l p)) = true := by rw [h]; decide
  have hs := sk_le hp
  have hw := wd_le hs.2
  have hcall := fun w hR => gword_ok isName 110 #[] (fun _ _ => by kernel_rfl) l b p w hl hp hR (fun x w' hx _ => isName_any x w' (by omega)) hN
  rw [h] at hw hcall
  generalize sk l p = q at hs hw hcall ⊢
  clear h hN
  simp only [recW, List.length_cons, List.length_nil] at hw hcall
  have hcallV := fun w hR hv => gword_ok isVar 33 #[] (fun _ _ => by kernel_rfl) l b (q + 3) w hl hw hR (fun x w' hx _ => isVar_any x w' (by omega)) hv
  have hcallB := fun w hR hv => gword_bad isVar 33 #[] (fun _ _ => by kernel_rfl) l b (q + 3) w hl hw hR (fun x w' hx _ => isVar_any x w' (by omega)) hv
  have hs1 := sk_le (l := l) (p := q + 3) hw
  generalize sk l (q + 3) = q1 at hs1 hcallV hcallB ⊢
  have hw1 := wd_le hs1.2
  generalize wd l q1 = nm at hcallV hcallB hw1 ⊢
  obtain ⟨RES, hRES⟩ : ∃ r, (if isVar nm = false then .bad q1 else (rdSign l 46 (q1 + nm.length)).seq fun _ p2 => (gdOne l n p2).seq fun t p3 => .ok (.mk 8 [] [] 0 nm [] [t]) p3 : Rd Gl) = r := ⟨_, rfl⟩
  rw [hRES]
  have HRES := Lib.hid hRES; clear hRES
  have hbw := hR.lt
  have hmf : ∀ (fn : Fn) (first cap : Array Value) (w : World), (Instr.makeFunc fn first cap).run Tryd.prog w = .ok (.func fn first cap) w := fun _ _ _ _ => rfl
  go_enter Tryd.func95, Tryd.ntmps95
  go_wp2_with fail
  have hbW : Below w.heap.size w (w.alloc (.cells #[.int .i64 0, .string ⟨#[]⟩, .string ⟨#[]⟩, .int .i64 0, .string ⟨#[]⟩, .slice none 0 0, .slice none 0 0] 42)) := by go_grown
  have XB := new_gval w zeroGl (.slice none 0 0) (.slice none 0 0) 42
  simp only [zeroGl, Gl.kind, Gl.frm, Gl.rcv, Gl.sort, Gl.name] at XB
  have hR0 := hR.keep hbW
  have hg0 := grown_belowB (grown_refl w b) hbW
  generalize w.alloc (.cells #[.int .i64 0, .string ⟨#[]⟩, .string ⟨#[]⟩, .int .i64 0, .string ⟨#[]⟩, .slice none 0 0, .slice none 0 0] 42) = w0 at XB hR0 hg0 ⊢
  clear hbW hR
  have hne1 : ¬ w.heap.size = b := by omega
  have hne2 : ¬ b = w.heap.size := by omega
  refine (hcall w0 hR0).mono ?_; clear hcall
  rintro e w1 ⟨rfl, hg, hR1⟩
  have hg1 := grown_trans hg0 hg
  replace XB := XB.grown' hg (by omega)
  clear hg hR0 hg0
  clear w0
  rename_i Kx hkx Ky hky
  have HKX := Lib.hid hkx
  clear hkx
  go_wp2_with fail
  have hbN : Below w1.heap.size w1 (w1.alloc (.cells #[.string ⟨#[114, 101, 99]⟩] 9)) := (Below.refl _ _).alloc (Nat.le_refl _) _
  have NB := OBox.new w1 (.string ⟨#[114, 101, 99]⟩) 9
  have XB2 := XB.keep hbN XB.lt
  have hR2 := hR1.keep hbN
  have hg2 := grown_belowB hg1 hbN
  have hXl := XB.lt
  have hbl := hR1.lt
  generalize w1.alloc (.cells #[.string ⟨#[114, 101, 99]⟩] 9) = w2 at NB XB2 hR2 hg2 ⊢
  clear hbN XB hR1 hg1
  generalize w1.heap.size = N at NB hXl hbl ⊢
  clear w1
  have hn1 : ¬ N = b := by omega
  have hn2 : ¬ b = N := by omega
  have hn3 : ¬ N = w.heap.size := by omega
  have hn4 : ¬ w.heap.size = N := by omega
  refine HKX.out _ _ ?_
  clear HKX
  clear hXl hbl
  obtain ⟨n0, n1⟩ := id NB
  obtain ⟨x0, x1, x2, x3, x4, x5, x6, x7, x8⟩ := id XB2
  go_wp2_with fail
  cases hv : isVar nm with
  | false =>
    refine (hcallB w2 hR2 hv).mono ?_
    rintro e w3 ⟨rfl, hg3⟩
    refine ⟨rfl, ?_⟩
    rw [← HRES.out, hv, if_pos rfl]
    exact ⟨grown_trans hg2 hg3, rfl⟩
  | true =>
    have HV := Lib.hid hv
    refine (hcallV w2 hR2 hv).mono ?_
    clear hv hcallV hcallB
    rintro e w3 ⟨rfl, hg, hR3⟩
    have hg3 := grown_trans hg2 hg
    have XB3 := XB2.grown' hg (by omega)
    clear hg hR2 hg2 XB2 NB n0 n1 x0 x1 x2 x3 x4 x5 x6 x7 x8 hn1 hn2 hn3 hn4
    clear w2
    rename_i Kx hkx Ky hky
    have HKX := Lib.hid hkx
    clear hkx
    go_wp2_with fail
    have hbG : Below w3.heap.size w3 (w3.alloc (.cells #[.int .i64 8, .string ⟨#[]⟩, .string ⟨#[]⟩, .int .i64 0, .string ⟨nm.toArray⟩, .slice none 0 0, .slice none 0 0] 42)) := (Below.refl _ _).alloc (Nat.le_refl _) _
    have GB := new_gval w3 (.mk 8 [] [] 0 nm [] []) (.slice none 0 0) (.slice none 0 0) 42
    simp only [Gl.kind, Gl.frm, Gl.rcv, Gl.sort, Gl.name] at GB
    have XB4 := XB3.keep hbG XB3.lt
    have hR4 := hR3.keep hbG
    have hg4 := grown_belowB hg3 hbG
    have hXl := XB3.lt
    have hbl := hR3.lt
    generalize w3.alloc (.cells #[.int .i64 8, .string ⟨#[]⟩, .string ⟨#[]⟩, .int .i64 0, .string ⟨nm.toArray⟩, .slice none 0 0, .slice none 0 0] 42) = w4 at GB XB4 hR4 hg4 ⊢
    clear hbG XB3 hR3 hg3
    generalize w3.heap.size = G at GB hXl hbl ⊢
    clear w3
    refine HKX.out _ _ ?_
    clear HKX
    have hn1 : ¬ G = b := by omega
    have hn2 : ¬ b = G := by omega
    have hn3 : ¬ G = w.heap.size := by omega
    have hn4 : ¬ w.heap.size = G := by omega
    go_wp2_with fail
    by_cases hsg : l[sk l (q1 + nm.length)]? = some 46
    case neg =>
      refine (gsign_bad l b (q1 + nm.length) 46 w4 hl hw1 hR4 hsg).mono ?_
      rintro e w6 ⟨rfl, hg6⟩
      refine ⟨rfl, ?_⟩
      rw [← HRES.out, HV.out, if_neg (by simp), rdSign, if_neg hsg]
      exact ⟨grown_trans hg4 hg6, rfl⟩
    have hsl := sk_le (l := l) (p := q1 + nm.length) hw1
    have hlt := at_lt hsg
    have hres : (gdOne l n (sk l (q1 + nm.length) + 1)).seq (fun t p3 => .ok (.mk 8 [] [] 0 nm [] [t]) p3) = RES := by
      rw [← HRES.out, HV.out, if_neg (by simp), rdSign, if_pos hsg]; rfl
    refine (gsign_ok l b (q1 + nm.length) 46 w4 hl hw1 hR4 hsg).mono ?_
    rintro e w7 ⟨rfl, hg, hR7⟩
    have hg7 := grown_trans hg4 hg
    have XB7 := XB4.grown' hg (by omega)
    have GB7 := GB.grown' hg (by omega)
    have hG7 := GB7.lt
    clear hg hR4 hg4 XB4 GB hsg
    clear w4
    go_wp2_with fail
    refine wp_region_T 6 (fun w' : World => w'.cell? ⟨G, 6, none⟩ = some (.slice none 0 0)) (by kernel_rfl) ?_
    have hbd : Below w7.heap.size w7 w7.drew := (Below.refl _ _).drew
    have XB5 := XB7.keep hbd XB7.lt
    have GB5 := GB7.keep hbd GB7.lt
    have hR5 := hR7.keep hbd
    have hg5 := grown_belowB hg7 hbd
    generalize w7.drew = w5 at XB5 GB5 hR5 hg5 ⊢
    clear hbd XB7 GB7 hR7 hg7 hG7
    clear w7
    have hG5 := GB5.lt
    have hS5 := hSk w w5 hS hg5
    have hsz : w.heap.size ≤ w5.heap.size := hg5.size
    have HSd : Hid ((fun w' : World => w'.cell? ⟨G, 6, none⟩ = some (.slice none 0 0)) w5) := Lib.hid GB5.c6
    refine wpT_take (i := 0) (v := ?_) rfl (by kernel_rfl) (by kernel_rfl) (by kernel_rfl) (by kernel_rfl) (fun _ _ _ h => h) (Or.inl ⟨by rfl, ?_⟩) HSd.out ?_
    rotate_left
    · (intro wq hSw; have z6 := hSw; go_simp; all_goals (first | (with_reducible rfl) | (rw [if_neg (by first | omega | (simp; omega) | (simp only [List.length_append, List.length_cons, List.length_nil]; omega))])))
    simp only [List.getElem_toArray, List.getElem_cons_succ, List.getElem_cons_zero, Act.put, List.setIfInBounds_toArray, List.set_cons_zero, List.set_cons_succ]
    refine wpT_take (i := 1) (v := ?_) rfl (by kernel_rfl) (by kernel_rfl) (by kernel_rfl) (by kernel_rfl) (fun _ _ _ h => h) (Or.inl ⟨by rfl, ?_⟩) HSd.out ?_
    rotate_left
    · (intro wq hSw; have z6 := hSw; go_simp; all_goals (first | (with_reducible rfl) | (rw [if_neg (by first | omega | (simp; omega) | (simp only [List.length_append, List.length_cons, List.length_nil]; omega))])))
    simp only [List.getElem_toArray, List.getElem_cons_succ, List.getElem_cons_zero, Act.put, List.setIfInBounds_toArray, List.set_cons_zero, List.set_cons_succ]
    refine wpT_take (i := 2) (v := ?_) rfl (by kernel_rfl) (by kernel_rfl) (by kernel_rfl) (by kernel_rfl) (fun _ _ _ h => h) (Or.inl ⟨by rfl, ?_⟩) HSd.out ?_
    rotate_left
    · (intro wq hSw; have z6 := hSw; go_simp; all_goals (first | (with_reducible rfl) | (rw [if_neg (by first | omega | (simp; omega) | (simp only [List.length_append, List.length_cons, List.length_nil]; omega))])))
    simp only [List.getElem_toArray, List.getElem_cons_succ, List.getElem_cons_zero, Act.put, List.setIfInBounds_toArray, List.set_cons_zero, List.set_cons_succ]
    refine wpT_one (i := 3) rfl (by kernel_rfl) fun K hK => ?_
    go_simp
    refine (ih (sk l (q1 + nm.length) + 1) w5 (by omega) (by omega) hS5 hR5).mono ?_
    rintro e w8 ⟨hg, hans⟩
    have hg8 := grown_trans hg5 hg
    have XB8 := XB5.grown' hg (by omega)
    have GB8 := GB5.grown' hg (by omega)
    have hzz : w5.heap.size ≤ w8.heap.size := hg.size
    clear hg hR5 hg5 XB5
    cases hr : gdOne l n (sk l (q1 + nm.length) + 1) with
    | bad q' =>
      rw [hr] at hans hres
      simp only at hans
      subst hans
      refine ⟨rfl, ?_⟩
      rw [← hres]
      exact ⟨hg8, rfl⟩
    | ok t p3 =>
    rw [hr] at hans hres
    obtain ⟨v, rfl, hT, hR8⟩ := hans
    have HR2 : Hid (Rd.ok (.mk 8 [] [] 0 nm [] [t]) p3 = RES) := Lib.hid hres
    clear hres hr HRES
    obtain ⟨lv, kv, rfl, k1, k2⟩ := hT
    have K1 := Lib.hid k1; have K2 := Lib.hid k2
    obtain ⟨A1, c1, rfl, -, -⟩ := k1
    obtain ⟨A2, c2, rfl, -, -⟩ := k2
    refine hK.out _ _ (fun _ => GB8.c6) ?_
    clear hK K
    try simp only [List.getElem_toArray, List.getElem_cons_succ, List.getElem_cons_zero, Act.put, List.setIfInBounds_toArray, List.set_cons_zero, List.set_cons_succ]
    refine wpT_one (i := 4) rfl (by kernel_rfl) fun K hK => ?_
    go_simp
    have hb9 : Below w8.heap.size w8 (w8.alloc (.cells #[.int .i64 t.kind, .string ⟨t.frm.toArray⟩, .string ⟨t.rcv.toArray⟩, .int .i64 t.sort, .string ⟨t.name.toArray⟩, .slice A1 t.labels.length c1, .slice A2 t.kids.length c2] 42)) := (Below.refl _ _).alloc (Nat.le_refl _) _
    have hs9 : ∀ j u, ([.int .i64 t.kind, .string ⟨t.frm.toArray⟩, .string ⟨t.rcv.toArray⟩, .int .i64 t.sort, .string ⟨t.name.toArray⟩, .slice A1 t.labels.length c1, .slice A2 t.kids.length c2] : List Value)[j]? = some u → (w8.alloc (.cells #[.int .i64 t.kind, .string ⟨t.frm.toArray⟩, .string ⟨t.rcv.toArray⟩, .int .i64 t.sort, .string ⟨t.name.toArray⟩, .slice A1 t.labels.length c1, .slice A2 t.kids.length c2] 42)).cell? ((⟨w8.heap.size, 0, none⟩ : Addr).add j) = some u := seven_new _ _ _ _ _ _ _ _ _
    have hz9 : w8.heap.size < (w8.alloc (.cells #[.int .i64 t.kind, .string ⟨t.frm.toArray⟩, .string ⟨t.rcv.toArray⟩, .int .i64 t.sort, .string ⟨t.name.toArray⟩, .slice A1 t.labels.length c1, .slice A2 t.kids.length c2] 42)).heap.size := by simp
    have hc9 : Cells7 (fun k => w5.heap.size ≤ k) (w8.alloc (.cells #[.int .i64 t.kind, .string ⟨t.frm.toArray⟩, .string ⟨t.rcv.toArray⟩, .int .i64 t.sort, .string ⟨t.name.toArray⟩, .slice A1 t.labels.length c1, .slice A2 t.kids.length c2] 42)) [.int .i64 t.kind, .string ⟨t.frm.toArray⟩, .string ⟨t.rcv.toArray⟩, .int .i64 t.sort, .string ⟨t.name.toArray⟩, .slice A1 t.labels.length c1, .slice A2 t.kids.length c2] [t] := .cons t _ _ [] [] (K1.out.keep (Same.below hb9) (fun _ h _ => h)) (K2.out.keep (Same.below hb9) (fun _ h _ => h)) .nil
    have HC9 := Lib.hid hc9; clear hc9
    have XB9 := XB8.keep hb9 XB8.lt
    have GB9 := GB8.keep hb9 GB8.lt
    have hR9 := hR8.keep hb9
    have hg9 := grown_belowB hg8 hb9
    generalize w8.alloc (.cells #[.int .i64 t.kind, .string ⟨t.frm.toArray⟩, .string ⟨t.rcv.toArray⟩, .int .i64 t.sort, .string ⟨t.name.toArray⟩, .slice A1 t.labels.length c1, .slice A2 t.kids.length c2] 42) = w9 at hs9 hz9 HC9 XB9 GB9 hR9 hg9 ⊢
    clear hb9 XB8 GB8 hR8 hg8 K1 K2
    refine hK.out _ _ (fun _ => GB9.c6) ?_
    clear hK K
    try simp only [List.getElem_toArray, List.getElem_cons_succ, List.getElem_cons_zero, Act.put, List.setIfInBounds_toArray, List.set_cons_zero, List.set_cons_succ]
    refine wpT_one (i := 5) rfl (by kernel_rfl) fun K hK => ?_
    refine step_app rt_gls rfl (.tmp 21) (.tmp 24) rfl w9.heap.size (.slice none 0 0) 0 [] rfl (World.ownsRow_nil _ _ _ _) ⟨w8.heap.size, 0, none⟩ 1 1 [.int .i64 t.kind, .string ⟨t.frm.toArray⟩, .string ⟨t.rcv.toArray⟩, .int .i64 t.sort, .string ⟨t.name.toArray⟩, .slice A1 t.labels.length c1, .slice A2 t.kids.length c2] rfl rfl hs9 (by simp [Value.oneCell']) (by decide) (by decide) (Nat.le_refl _) (fun v' w10 k1 k2 k3 k4 => ?_)
    have hb10 : Below w9.heap.size w9 w10 := k4
    have XB10 := XB9.keep hb10 XB9.lt
    have GB10 := GB9.keep hb10 GB9.lt
    have hR10 := hR9.keep hb10
    have hg10 := grown_belowB hg9 hb10
    have HC10 := Lib.hid (HC9.out.keep (Same.below hb10) (fun _ h _ => h))
    have HK := Lib.hid (own_gls (D := fun k => w.heap.size ≤ k ∧ k ≠ w.heap.size ∧ k ≠ G) (ts := [t]) k1 (HC10.out.keep (fun _ _ _ => rfl) (fun k hk _ => ⟨by omega, by omega, by omega⟩)) (fun k hk => ⟨by omega, by omega, by omega⟩))
    obtain ⟨Ax, cx, rfl⟩ := own_form k1
    clear k1 k2 k3 k4 hb10 hs9 HC9 HC10 XB9 GB9 hR9 hg9
    obtain ⟨z0, z1, z2, z3, z4, z5, z6, z7, z8⟩ := id GB10
    refine hK.out _ _ (fun _ => GB10.c6) ?_
    clear hK K
    try simp only [List.getElem_toArray, List.getElem_cons_succ, List.getElem_cons_zero, Act.put, List.setIfInBounds_toArray, List.set_cons_zero, List.set_cons_succ]
    refine wpT_one (i := 6) rfl (by kernel_rfl) fun K hK => ?_
    go_simp
    refine hK.out _ _ (fun h => absurd h (by decide)) ?_
    clear hK K
    try simp only [List.getElem_toArray, List.getElem_cons_succ, List.getElem_cons_zero, Act.put, List.setIfInBounds_toArray, List.set_cons_zero, List.set_cons_succ]
    refine wpT_one (i := 7) rfl (by kernel_rfl) fun K hK => ?_
    go_simp
    refine hK.out _ _ (fun h => absurd h (by decide)) ?_
    clear hK K
    try simp only [List.getElem_toArray, List.getElem_cons_succ, List.getElem_cons_zero, Act.put, List.setIfInBounds_toArray, List.set_cons_zero, List.set_cons_succ]
    refine wpT_done (by kernel_rfl) ?_
    have GB11 := GB10.put6 (.slice Ax 1 cx)
    have XB11 := XB10.far (p := ⟨G, 6, none⟩) hn3 (.slice Ax 1 cx)
    have hR11 := hR10.far (a := ⟨G, 6, none⟩) hn1 (.slice Ax 1 cx)
    have hg11 := grown_in hg10 (a := ⟨G, 6, none⟩) (show w.heap.size ≤ G by omega) (.slice Ax 1 cx)
    have HK11 := Lib.hid (HK.out.keep (D' := fun k => w.heap.size ≤ k ∧ k ≠ w.heap.size) (w' := w10.setCell ⟨G, 6, none⟩ (.slice Ax 1 cx)) (Same.set (fun h => h.2.2 rfl)) (fun k hk _ => ⟨hk.1, hk.2.1⟩))
    generalize w10.setCell ⟨G, 6, none⟩ (.slice Ax 1 cx) = w11 at GB11 XB11 hR11 hg11 HK11 ⊢
    clear HK z0 z1 z2 z3 z4 z5 z6 z7 z8 GB10 XB10 hR10 hg10 HSd hz9 hzz
    clear w10
    obtain ⟨z0, z1, z2, z3, z4, z5, z6, z7, z8⟩ := id GB11
    obtain ⟨x0, x1, x2, x3, x4, x5, x6, x7, x8⟩ := id XB11
    simp only [Gl.kind, Gl.frm, Gl.rcv, Gl.sort, Gl.name] at z0 z1 z2 z3 z4
    go_wp2_with fail
    obtain ⟨hF, hgF, hRF, hT⟩ := gfinish hbw (Nat.le_refl _) hg11 hR11 XB11 8 [] [] 0 nm [] [t] (.slice none 0 0) (.slice Ax 1 cx) (no_strs' _ _) HK11.out
    generalize (((((((w11.setCell ⟨w.heap.size, 0, none⟩ (.int .i64 8)).setCell ⟨w.heap.size, 1, none⟩ (.string ⟨#[]⟩)).setCell ⟨w.heap.size, 2, none⟩ (.string ⟨#[]⟩)).setCell ⟨w.heap.size, 3, none⟩ (.int .i64 0)).setCell ⟨w.heap.size, 4, none⟩ (.string ⟨nm.toArray⟩)).setCell ⟨w.heap.size, 5, none⟩ (.slice none 0 0)).setCell ⟨w.heap.size, 6, none⟩ (.slice Ax 1 cx)) = wF at hF hgF hRF hT ⊢
    obtain ⟨d0, d1, d2, d3, d4, d5, d6, d7, d8⟩ := hF
    refine bodyPost_ret (v := .agg #[.int .i64 8, .string ⟨#[]⟩, .string ⟨#[]⟩, .int .i64 0, .string ⟨nm.toArray⟩, .slice none 0 0, .slice Ax 1 cx]) (by simp [results, Tryd.results95, go_sem, d0, d1, d2, d3, d4, d5, d6, Gl.kind, Gl.frm, Gl.rcv, Gl.sort, Gl.name]) rfl ?_
    refine ⟨hgF, ?_⟩
    rw [← HR2.out]
    exact ⟨_, rfl, hT, hRF⟩
end
end Go.Proofs.YtcacembpegoghaaDoor
