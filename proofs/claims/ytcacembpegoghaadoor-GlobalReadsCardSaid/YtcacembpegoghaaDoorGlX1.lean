/-
  The reference's reader of conversations: talk, by cases of what stands there.
-/
import Derived.Test.YtcacembpegoghaaDoorGlR
import Derived.Test.YtcacembpegoghaaDoorHeld
import Derived.Test.YtcacembpegoghaaDoorBits3
namespace Go.Proofs.YtcacembpegoghaaDoor
open Go.RowKit Go.Proofs

set_option maxRecDepth 100000
section
variable (l : Str) (b p : Nat) (w : World) (hl : l.length ≤ 2000) (hp : p ≤ l.length)
include hl hp
omit hl hp in
set_option maxHeartbeats 4000000 in
theorem talk_bad (q : Nat) (hR : SBox w b l ⟨p, some q⟩) : Calls Tryd.prog 99 #[.pointer (some ⟨b, 0, none⟩)] w (GAnsR w b l (zeroGl, ⟨p, some q⟩)) := by
  obtain ⟨c0, c1, c2, c3, c4, fr, lt⟩ := id hR
  simp only [codeOf, placeOf] at c3 c4
  have hbw := hR.lt
  have hmf : ∀ (fn : Fn) (first cap : Array Value) (w : World), (Instr.makeFunc fn first cap).run Tryd.prog w = .ok (.func fn first cap) w := fun _ _ _ _ => rfl
  go_enter Tryd.func99, Tryd.ntmps99
  go_wp2_with fail
  have XB5 := new_gbox w 42
  have hbW : Below w.heap.size w (w.alloc (.cells #[.int .i64 0, .string ⟨#[]⟩, .string ⟨#[]⟩, .int .i64 0, .string ⟨#[]⟩, .slice none 0 0, .slice none 0 0] 42)) := by go_grown
  have hR5 := hR.keep hbW
  have hg5 := grown_belowB (grown_refl w b) hbW
  generalize w.alloc (.cells #[.int .i64 0, .string ⟨#[]⟩, .string ⟨#[]⟩, .int .i64 0, .string ⟨#[]⟩, .slice none 0 0, .slice none 0 0] 42) = w5 at XB5 hR5 hg5 ⊢
  obtain ⟨d0, d1, d2, d3, d4, d5, d6, d7, d8⟩ := id XB5
  simp only [zeroGl, Gl.kind, Gl.frm, Gl.rcv, Gl.sort, Gl.name] at d0 d1 d2 d3 d4
  refine bodyPost_ret (v := .agg #[.int .i64 0, .string ⟨([] : Str).toArray⟩, .string ⟨([] : Str).toArray⟩, .int .i64 0, .string ⟨([] : Str).toArray⟩, .slice none 0 0, .slice none 0 0]) (by simp [results, Tryd.results99, go_sem, d0, d1, d2, d3, d4, d5, d6, zeroGl, Gl.kind, Gl.frm, Gl.rcv, Gl.sort, Gl.name]) rfl ?_
  refine ⟨hg5, _, rfl, ?_, ?_⟩
  · exact zero_gl _ _
  · exact hR5
set_option maxHeartbeats 4000000 in
theorem talk_end (hR : SBox w b l ⟨p, none⟩) (W : Str) (p1 : Nat) (bad1 : Option Nat) (hM : must l isName ⟨p, none⟩ = (W, ⟨p1, bad1⟩)) (hW : W = endW) : Calls Tryd.prog 99 #[.pointer (some ⟨b, 0, none⟩)] w (GAnsR w b l (.mk 1 [] [] 0 [] [] [], ⟨p1, bad1⟩)) := by
  have e1 : (W == [101, 110, 100]) = true := by rw [hW]; rfl
  clear hW
  obtain ⟨c0, c1, c2, c3, c4, fr, lt⟩ := id hR
  simp only [codeOf, placeOf] at c3 c4
  have hmf : ∀ (fn : Fn) (first cap : Array Value) (w : World), (Instr.makeFunc fn first cap).run Tryd.prog w = .ok (.func fn first cap) w := fun _ _ _ _ => rfl
  have hbw := hR.lt
  have hon := must_on (l := l) isName (s := ⟨p, none⟩) hp
  rw [hM] at hon
  go_enter Tryd.func99, Tryd.ntmps99
  go_wp2_with fail
  have hbW : Below w.heap.size w (w.alloc (.cells #[.int .i64 0, .string ⟨#[]⟩, .string ⟨#[]⟩, .int .i64 0, .string ⟨#[]⟩, .slice none 0 0, .slice none 0 0] 42)) := by go_grown
  have XB := new_gbox w 42
  have hR0 := hR.keep hbW
  have hg0 := grown_belowB (grown_refl w b) hbW
  generalize w.alloc (.cells #[.int .i64 0, .string ⟨#[]⟩, .string ⟨#[]⟩, .int .i64 0, .string ⟨#[]⟩, .slice none 0 0, .slice none 0 0] 42) = w0 at XB hR0 hg0 ⊢
  clear hbW hR c0 c1 c2 c3 c4 fr lt
  have hne1 : ¬ w.heap.size = b := by omega
  have hne2 : ¬ b = w.heap.size := by omega
  have hcall := must_any isName 111 #[] (fun _ _ => by kernel_rfl) l b p none w0 hl hp hR0 (fun x w' hx _ => refIsName_any x w' (by omega))
  rw [hM] at hcall
  refine hcall.mono ?_; clear hcall
  rintro e w1 ⟨rfl, hg, hR1⟩
  have hg1 := grown_trans hg0 hg
  replace XB := XB.grown' hg (by omega)
  clear hg hR0 hg0 hM
  clear w0
  simp only at hR1
  rename_i Kx hkx Ky hky
  have HKX := Lib.hid hkx
  clear hkx
  go_wp2_with fail
  have hbN : Below w1.heap.size w1 (w1.alloc (.cells #[.string ⟨W.toArray⟩] 9)) := (Below.refl _ _).alloc (Nat.le_refl _) _
  have NB := OBox.new w1 (.string ⟨W.toArray⟩) 9
  have XB2 := XB.keep hbN XB.lt
  have hR2 := hR1.keep hbN
  have hg2 := grown_belowB hg1 hbN
  have hXl := XB.lt
  have hbl := hR1.lt
  generalize w1.alloc (.cells #[.string ⟨W.toArray⟩] 9) = w2 at NB XB2 hR2 hg2 ⊢
  clear hbN XB hR1 hg1
  generalize w1.heap.size = N at NB hXl hbl ⊢
  clear w1
  have hn1 : ¬ N = b := by omega
  have hn2 : ¬ b = N := by omega
  have hn3 : ¬ N = w.heap.size := by omega
  have hn4 : ¬ w.heap.size = N := by omega
  refine HKX.out _ _ ?_
  clear HKX
  clear hXl hbl
  obtain ⟨n0, n1⟩ := id NB
  obtain ⟨x0, x1, x2, x3, x4, x5, x6, x7, x8⟩ := id XB2
  go_wp2_with fail
  obtain ⟨hF, hgF, hRF, hT⟩ := gfinishS hbw (Nat.le_refl _) hg2 hR2 XB2 1 [] [] 0 [] [] [] (.slice none 0 0) (.slice none 0 0) (no_strs' _ _) (no_gls _ _)
  generalize (((((((w2.setCell ⟨w.heap.size, 0, none⟩ (.int .i64 1)).setCell ⟨w.heap.size, 1, none⟩ (.string ⟨#[]⟩)).setCell ⟨w.heap.size, 2, none⟩ (.string ⟨#[]⟩)).setCell ⟨w.heap.size, 3, none⟩ (.int .i64 0)).setCell ⟨w.heap.size, 4, none⟩ (.string ⟨#[]⟩)).setCell ⟨w.heap.size, 5, none⟩ (.slice none 0 0)).setCell ⟨w.heap.size, 6, none⟩ (.slice none 0 0)) = wF at hF hgF hRF hT ⊢
  obtain ⟨d0, d1, d2, d3, d4, d5, d6, d7, d8⟩ := hF
  refine bodyPost_ret (v := .agg #[.int .i64 1, .string ⟨#[]⟩, .string ⟨#[]⟩, .int .i64 0, .string ⟨#[]⟩, .slice none 0 0, .slice none 0 0]) (by simp [results, Tryd.results99, go_sem, d0, d1, d2, d3, d4, d5, d6, Gl.kind, Gl.frm, Gl.rcv, Gl.sort, Gl.name]) rfl ?_
  exact ⟨hgF, _, rfl, hT, hRF⟩
set_option maxHeartbeats 4000000 in
theorem talk_varbad (hR : SBox w b l ⟨p, none⟩) (W : Str) (p1 : Nat) (q0 : Nat) (hM : must l isName ⟨p, none⟩ = (W, ⟨p1, some q0⟩)) (h1 : W ≠ endW) (h2 : W ≠ recW) : Calls Tryd.prog 99 #[.pointer (some ⟨b, 0, none⟩)] w (GAnsR w b l (.mk 9 [] [] 0 W [] [], ⟨p1, some q0⟩)) := by
  have e1 : (W == [101, 110, 100]) = false := by simpa [endW] using h1
  have e2 : (W == [114, 101, 99]) = false := by simpa [recW] using h2
  obtain ⟨c0, c1, c2, c3, c4, fr, lt⟩ := id hR
  simp only [codeOf, placeOf] at c3 c4
  have hmf : ∀ (fn : Fn) (first cap : Array Value) (w : World), (Instr.makeFunc fn first cap).run Tryd.prog w = .ok (.func fn first cap) w := fun _ _ _ _ => rfl
  have hbw := hR.lt
  have hon := must_on (l := l) isName (s := ⟨p, none⟩) hp
  rw [hM] at hon
  go_enter Tryd.func99, Tryd.ntmps99
  go_wp2_with fail
  have hbW : Below w.heap.size w (w.alloc (.cells #[.int .i64 0, .string ⟨#[]⟩, .string ⟨#[]⟩, .int .i64 0, .string ⟨#[]⟩, .slice none 0 0, .slice none 0 0] 42)) := by go_grown
  have XB := new_gbox w 42
  have hR0 := hR.keep hbW
  have hg0 := grown_belowB (grown_refl w b) hbW
  generalize w.alloc (.cells #[.int .i64 0, .string ⟨#[]⟩, .string ⟨#[]⟩, .int .i64 0, .string ⟨#[]⟩, .slice none 0 0, .slice none 0 0] 42) = w0 at XB hR0 hg0 ⊢
  clear hbW hR c0 c1 c2 c3 c4 fr lt
  have hne1 : ¬ w.heap.size = b := by omega
  have hne2 : ¬ b = w.heap.size := by omega
  have hcall := must_any isName 111 #[] (fun _ _ => by kernel_rfl) l b p none w0 hl hp hR0 (fun x w' hx _ => refIsName_any x w' (by omega))
  rw [hM] at hcall
  refine hcall.mono ?_; clear hcall
  rintro e w1 ⟨rfl, hg, hR1⟩
  have hg1 := grown_trans hg0 hg
  replace XB := XB.grown' hg (by omega)
  clear hg hR0 hg0 hM
  clear w0
  simp only at hR1
  rename_i Kx hkx Ky hky
  have HKX := Lib.hid hkx
  clear hkx
  go_wp2_with fail
  have hbN : Below w1.heap.size w1 (w1.alloc (.cells #[.string ⟨W.toArray⟩] 9)) := (Below.refl _ _).alloc (Nat.le_refl _) _
  have NB := OBox.new w1 (.string ⟨W.toArray⟩) 9
  have XB2 := XB.keep hbN XB.lt
  have hR2 := hR1.keep hbN
  have hg2 := grown_belowB hg1 hbN
  have hXl := XB.lt
  have hbl := hR1.lt
  generalize w1.alloc (.cells #[.string ⟨W.toArray⟩] 9) = w2 at NB XB2 hR2 hg2 ⊢
  clear hbN XB hR1 hg1
  generalize w1.heap.size = N at NB hXl hbl ⊢
  clear w1
  have hn1 : ¬ N = b := by omega
  have hn2 : ¬ b = N := by omega
  have hn3 : ¬ N = w.heap.size := by omega
  have hn4 : ¬ w.heap.size = N := by omega
  refine HKX.out _ _ ?_
  clear HKX
  clear hXl hbl
  obtain ⟨n0, n1⟩ := id NB
  obtain ⟨x0, x1, x2, x3, x4, x5, x6, x7, x8⟩ := id XB2
  obtain ⟨r0, r1, r2, r3, r4, r5, r6⟩ := id hR2
  simp only [codeOf, placeOf] at r3 r4
  go_wp2_with fail
  obtain ⟨hF, hgF, hRF, hT⟩ := gfinishS hbw (Nat.le_refl _) hg2 hR2 XB2 9 [] [] 0 W [] [] (.slice none 0 0) (.slice none 0 0) (no_strs' _ _) (no_gls _ _)
  generalize (((((((w2.setCell ⟨w.heap.size, 0, none⟩ (.int .i64 9)).setCell ⟨w.heap.size, 1, none⟩ (.string ⟨#[]⟩)).setCell ⟨w.heap.size, 2, none⟩ (.string ⟨#[]⟩)).setCell ⟨w.heap.size, 3, none⟩ (.int .i64 0)).setCell ⟨w.heap.size, 4, none⟩ (.string ⟨W.toArray⟩)).setCell ⟨w.heap.size, 5, none⟩ (.slice none 0 0)).setCell ⟨w.heap.size, 6, none⟩ (.slice none 0 0)) = wF at hF hgF hRF hT ⊢
  obtain ⟨d0, d1, d2, d3, d4, d5, d6, d7, d8⟩ := hF
  refine bodyPost_ret (v := .agg #[.int .i64 9, .string ⟨#[]⟩, .string ⟨#[]⟩, .int .i64 0, .string ⟨W.toArray⟩, .slice none 0 0, .slice none 0 0]) (by simp [results, Tryd.results99, go_sem, d0, d1, d2, d3, d4, d5, d6, Gl.kind, Gl.frm, Gl.rcv, Gl.sort, Gl.name]) rfl ?_
  exact ⟨hgF, _, rfl, hT, hRF⟩
set_option maxHeartbeats 4000000 in
theorem talk_var (hR : SBox w b l ⟨p, none⟩) (W : Str) (p1 : Nat) (hM : must l isName ⟨p, none⟩ = (W, ⟨p1, none⟩)) (h1 : W ≠ endW) (h2 : W ≠ recW) (hpk : ¬ pk l (sk l p1) = [62]) : Calls Tryd.prog 99 #[.pointer (some ⟨b, 0, none⟩)] w (GAnsR w b l (.mk 9 [] [] 0 W [] [], ⟨sk l p1, none⟩)) := by
  have e1 : (W == [101, 110, 100]) = false := by simpa [endW] using h1
  have e2 : (W == [114, 101, 99]) = false := by simpa [recW] using h2
  obtain ⟨c0, c1, c2, c3, c4, fr, lt⟩ := id hR
  simp only [codeOf, placeOf] at c3 c4
  have hmf : ∀ (fn : Fn) (first cap : Array Value) (w : World), (Instr.makeFunc fn first cap).run Tryd.prog w = .ok (.func fn first cap) w := fun _ _ _ _ => rfl
  have hbw := hR.lt
  have hon := must_on (l := l) isName (s := ⟨p, none⟩) hp
  rw [hM] at hon
  go_enter Tryd.func99, Tryd.ntmps99
  go_wp2_with fail
  have hbW : Below w.heap.size w (w.alloc (.cells #[.int .i64 0, .string ⟨#[]⟩, .string ⟨#[]⟩, .int .i64 0, .string ⟨#[]⟩, .slice none 0 0, .slice none 0 0] 42)) := by go_grown
  have XB := new_gbox w 42
  have hR0 := hR.keep hbW
  have hg0 := grown_belowB (grown_refl w b) hbW
  generalize w.alloc (.cells #[.int .i64 0, .string ⟨#[]⟩, .string ⟨#[]⟩, .int .i64 0, .string ⟨#[]⟩, .slice none 0 0, .slice none 0 0] 42) = w0 at XB hR0 hg0 ⊢
  clear hbW hR c0 c1 c2 c3 c4 fr lt
  have hne1 : ¬ w.heap.size = b := by omega
  have hne2 : ¬ b = w.heap.size := by omega
  have hcall := must_any isName 111 #[] (fun _ _ => by kernel_rfl) l b p none w0 hl hp hR0 (fun x w' hx _ => refIsName_any x w' (by omega))
  rw [hM] at hcall
  refine hcall.mono ?_; clear hcall
  rintro e w1 ⟨rfl, hg, hR1⟩
  have hg1 := grown_trans hg0 hg
  replace XB := XB.grown' hg (by omega)
  clear hg hR0 hg0 hM
  clear w0
  simp only at hR1
  rename_i Kx hkx Ky hky
  have HKX := Lib.hid hkx
  clear hkx
  go_wp2_with fail
  have hbN : Below w1.heap.size w1 (w1.alloc (.cells #[.string ⟨W.toArray⟩] 9)) := (Below.refl _ _).alloc (Nat.le_refl _) _
  have NB := OBox.new w1 (.string ⟨W.toArray⟩) 9
  have XB2 := XB.keep hbN XB.lt
  have hR2 := hR1.keep hbN
  have hg2 := grown_belowB hg1 hbN
  have hXl := XB.lt
  have hbl := hR1.lt
  generalize w1.alloc (.cells #[.string ⟨W.toArray⟩] 9) = w2 at NB XB2 hR2 hg2 ⊢
  clear hbN XB hR1 hg1
  generalize w1.heap.size = N at NB hXl hbl ⊢
  clear w1
  have hn1 : ¬ N = b := by omega
  have hn2 : ¬ b = N := by omega
  have hn3 : ¬ N = w.heap.size := by omega
  have hn4 : ¬ w.heap.size = N := by omega
  refine HKX.out _ _ ?_
  clear HKX
  clear hXl hbl
  obtain ⟨n0, n1⟩ := id NB
  obtain ⟨x0, x1, x2, x3, x4, x5, x6, x7, x8⟩ := id XB2
  obtain ⟨r0, r1, r2, r3, r4, r5, r6⟩ := id hR2
  simp only [codeOf, placeOf] at r3 r4
  go_wp2_with fail
  refine (peek_any l b p1 none w2 hl hon.2.1 hR2).mono ?_
  have hs1 := sk_le hon.2.1
  simp only at hs1
  rintro e w3 ⟨rfl, hg, hR3⟩
  have hg3 := grown_trans hg2 hg
  have XB3 := XB2.grown' hg (by omega)
  have NB3 := NB.grown' hg (by omega)
  clear hg hR2 hg2 XB2 NB n0 n1 x0 x1 x2 x3 x4 x5 x6 x7 x8 r0 r1 r2 r3 r4 r5 r6
  clear w2
  obtain ⟨n0, n1⟩ := id NB3
  obtain ⟨x0, x1, x2, x3, x4, x5, x6, x7, x8⟩ := id XB3
  have hpe : (pk l (sk l p1) == [62]) = false := by simpa using hpk
  go_wp2_with fail
  obtain ⟨hF, hgF, hRF, hT⟩ := gfinishS hbw (Nat.le_refl _) hg3 hR3 XB3 9 [] [] 0 W [] [] (.slice none 0 0) (.slice none 0 0) (no_strs' _ _) (no_gls _ _)
  generalize (((((((w3.setCell ⟨w.heap.size, 0, none⟩ (.int .i64 9)).setCell ⟨w.heap.size, 1, none⟩ (.string ⟨#[]⟩)).setCell ⟨w.heap.size, 2, none⟩ (.string ⟨#[]⟩)).setCell ⟨w.heap.size, 3, none⟩ (.int .i64 0)).setCell ⟨w.heap.size, 4, none⟩ (.string ⟨W.toArray⟩)).setCell ⟨w.heap.size, 5, none⟩ (.slice none 0 0)).setCell ⟨w.heap.size, 6, none⟩ (.slice none 0 0)) = wF at hF hgF hRF hT ⊢
  obtain ⟨d0, d1, d2, d3, d4, d5, d6, d7, d8⟩ := hF
  refine bodyPost_ret (v := .agg #[.int .i64 9, .string ⟨#[]⟩, .string ⟨#[]⟩, .int .i64 0, .string ⟨W.toArray⟩, .slice none 0 0, .slice none 0 0]) (by simp [results, Tryd.results99, go_sem, d0, d1, d2, d3, d4, d5, d6, Gl.kind, Gl.frm, Gl.rcv, Gl.sort, Gl.name]) rfl ?_
  exact ⟨hgF, _, rfl, hT, hRF⟩
set_option maxHeartbeats 4000000 in
theorem talk_norole (hR : SBox w b l ⟨p, none⟩) (W : Str) (p1 : Nat) (hM : must l isName ⟨p, none⟩ = (W, ⟨p1, none⟩)) (h1 : W ≠ endW) (h2 : W ≠ recW) (hpk : pk l (sk l p1) = [62]) (hro : isRole W = false) : Calls Tryd.prog 99 #[.pointer (some ⟨b, 0, none⟩)] w (GAnsR w b l (zeroGl, ⟨sk l p1, some (sk l p1)⟩)) := by
  have e1 : (W == [101, 110, 100]) = false := by simpa [endW] using h1
  have e2 : (W == [114, 101, 99]) = false := by simpa [recW] using h2
  obtain ⟨c0, c1, c2, c3, c4, fr, lt⟩ := id hR
  simp only [codeOf, placeOf] at c3 c4
  have hmf : ∀ (fn : Fn) (first cap : Array Value) (w : World), (Instr.makeFunc fn first cap).run Tryd.prog w = .ok (.func fn first cap) w := fun _ _ _ _ => rfl
  have hbw := hR.lt
  have hon := must_on (l := l) isName (s := ⟨p, none⟩) hp
  rw [hM] at hon
  go_enter Tryd.func99, Tryd.ntmps99
  go_wp2_with fail
  have hbW : Below w.heap.size w (w.alloc (.cells #[.int .i64 0, .string ⟨#[]⟩, .string ⟨#[]⟩, .int .i64 0, .string ⟨#[]⟩, .slice none 0 0, .slice none 0 0] 42)) := by go_grown
  have XB := new_gbox w 42
  have hR0 := hR.keep hbW
  have hg0 := grown_belowB (grown_refl w b) hbW
  generalize w.alloc (.cells #[.int .i64 0, .string ⟨#[]⟩, .string ⟨#[]⟩, .int .i64 0, .string ⟨#[]⟩, .slice none 0 0, .slice none 0 0] 42) = w0 at XB hR0 hg0 ⊢
  clear hbW hR c0 c1 c2 c3 c4 fr lt
  have hne1 : ¬ w.heap.size = b := by omega
  have hne2 : ¬ b = w.heap.size := by omega
  have hcall := must_any isName 111 #[] (fun _ _ => by kernel_rfl) l b p none w0 hl hp hR0 (fun x w' hx _ => refIsName_any x w' (by omega))
  rw [hM] at hcall
  refine hcall.mono ?_; clear hcall
  rintro e w1 ⟨rfl, hg, hR1⟩
  have hg1 := grown_trans hg0 hg
  replace XB := XB.grown' hg (by omega)
  clear hg hR0 hg0 hM
  clear w0
  simp only at hR1
  rename_i Kx hkx Ky hky
  have HKX := Lib.hid hkx
  clear hkx
  go_wp2_with fail
  have hbN : Below w1.heap.size w1 (w1.alloc (.cells #[.string ⟨W.toArray⟩] 9)) := (Below.refl _ _).alloc (Nat.le_refl _) _
  have NB := OBox.new w1 (.string ⟨W.toArray⟩) 9
  have XB2 := XB.keep hbN XB.lt
  have hR2 := hR1.keep hbN
  have hg2 := grown_belowB hg1 hbN
  have hXl := XB.lt
  have hbl := hR1.lt
  generalize w1.alloc (.cells #[.string ⟨W.toArray⟩] 9) = w2 at NB XB2 hR2 hg2 ⊢
  clear hbN XB hR1 hg1
  generalize w1.heap.size = N at NB hXl hbl ⊢
  clear w1
  have hn1 : ¬ N = b := by omega
  have hn2 : ¬ b = N := by omega
  have hn3 : ¬ N = w.heap.size := by omega
  have hn4 : ¬ w.heap.size = N := by omega
  refine HKX.out _ _ ?_
  clear HKX
  clear hXl hbl
  obtain ⟨n0, n1⟩ := id NB
  obtain ⟨x0, x1, x2, x3, x4, x5, x6, x7, x8⟩ := id XB2
  obtain ⟨r0, r1, r2, r3, r4, r5, r6⟩ := id hR2
  simp only [codeOf, placeOf] at r3 r4
  go_wp2_with fail
  refine (peek_any l b p1 none w2 hl hon.2.1 hR2).mono ?_
  have hs1 := sk_le hon.2.1
  simp only at hs1
  rintro e w3 ⟨rfl, hg, hR3⟩
  have hg3 := grown_trans hg2 hg
  have XB3 := XB2.grown' hg (by omega)
  have NB3 := NB.grown' hg (by omega)
  clear hg hR2 hg2 XB2 NB n0 n1 x0 x1 x2 x3 x4 x5 x6 x7 x8 r0 r1 r2 r3 r4 r5 r6
  clear w2
  obtain ⟨n0, n1⟩ := id NB3
  obtain ⟨x0, x1, x2, x3, x4, x5, x6, x7, x8⟩ := id XB3
  rw [hpk]
  clear hpk
  have HR := Lib.hid hro; clear hro
  have hss := sk_sk l p1
  obtain ⟨Q, hQ⟩ : ∃ x, sk l p1 = x := ⟨_, rfl⟩
  rw [hQ] at hs1 hR3 hss
  try rw [hQ]
  have HQ := Lib.hid hQ
  clear hQ
  go_wp2_with fail
  refine (refIsRole_any W w3).mono ?_; rw [HR.out]; rintro e w4 ⟨rfl, hb4⟩
  have XB4 := XB3.keep hb4 XB3.lt
  have hR4 := hR3.keep hb4
  have hg4 := grown_belowB hg3 hb4
  clear hb4 hR3 hg3 XB3 NB3 n0 n1 x0 x1 x2 x3 x4 x5 x6 x7 x8
  clear w3
  go_wp2_with fail
  refine (Fail_none l b Q w4 hl hs1.2 hR4).mono ?_
  rw [hss]
  rintro e w5 ⟨rfl, hg, hR5⟩
  have hg5 := grown_trans hg4 hg
  have XB5 := XB4.grown' hg (by omega)
  clear hg hR4 hg4 XB4
  clear w4
  obtain ⟨x0, x1, x2, x3, x4, x5, x6, x7, x8⟩ := id XB5
  go_wp2_with fail
  obtain ⟨hF, hgF, hRF, hT⟩ := gfinishS hbw (Nat.le_refl _) hg5 hR5 XB5 0 [] [] 0 [] [] [] (.slice none 0 0) (.slice none 0 0) (no_strs' _ _) (no_gls _ _)
  generalize (((((((w5.setCell ⟨w.heap.size, 0, none⟩ (.int .i64 0)).setCell ⟨w.heap.size, 1, none⟩ (.string ⟨#[]⟩)).setCell ⟨w.heap.size, 2, none⟩ (.string ⟨#[]⟩)).setCell ⟨w.heap.size, 3, none⟩ (.int .i64 0)).setCell ⟨w.heap.size, 4, none⟩ (.string ⟨#[]⟩)).setCell ⟨w.heap.size, 5, none⟩ (.slice none 0 0)).setCell ⟨w.heap.size, 6, none⟩ (.slice none 0 0)) = wF at hF hgF hRF hT ⊢
  obtain ⟨d0, d1, d2, d3, d4, d5, d6, d7, d8⟩ := hF
  refine bodyPost_ret (v := .agg #[.int .i64 0, .string ⟨#[]⟩, .string ⟨#[]⟩, .int .i64 0, .string ⟨#[]⟩, .slice none 0 0, .slice none 0 0]) (by simp [results, Tryd.results99, go_sem, d0, d1, d2, d3, d4, d5, d6, Gl.kind, Gl.frm, Gl.rcv, Gl.sort, Gl.name]) rfl ?_
  rw [HQ.out]
  exact ⟨hgF, _, rfl, hT, hRF⟩
set_option maxHeartbeats 4000000 in
theorem talk_rec (hR : SBox w b l ⟨p, none⟩) (W : Str) (p1 : Nat) (bad1 : Option Nat) (hM : must l isName ⟨p, none⟩ = (W, ⟨p1, bad1⟩)) (hW : W = recW) (n : Nat) (ih : ∀ (s : St) (w : World), s.p ≤ l.length → (s.bad = none → l.length < n + s.p) → SBox w b l s → Calls Tryd.prog 99 #[.pointer (some ⟨b, 0, none⟩)] w (GAnsR w b l (gscanF l n s))) (hn : l.length < n + 1 + p) : Calls Tryd.prog 99 #[.pointer (some ⟨b, 0, none⟩)] w (GAnsR w b l (.mk 8 [] [] 0 (must l isVar ⟨p1, bad1⟩).1 [] [(gscanF l n (must l (isW [46]) (must l isVar ⟨p1, bad1⟩).2).2).1], (gscanF l n (must l (isW [46]) (must l isVar ⟨p1, bad1⟩).2).2).2)) := by
  obtain ⟨RES, hRES⟩ : ∃ r, ((.mk 8 [] [] 0 (must l isVar ⟨p1, bad1⟩).1 [] [(gscanF l n (must l (isW [46]) (must l isVar ⟨p1, bad1⟩).2).2).1], (gscanF l n (must l (isW [46]) (must l isVar ⟨p1, bad1⟩).2).2).2) : Gl × St) = r := ⟨_, rfl⟩
  rw [hRES]
  have HRES := Lib.hid hRES; clear hRES
  have e1 : (W == [101, 110, 100]) = false := by rw [hW]; rfl
  have e2 : (W == [114, 101, 99]) = true := by rw [hW]; rfl
  clear hW
  obtain ⟨c0, c1, c2, c3, c4, fr, lt⟩ := id hR
  simp only [codeOf, placeOf] at c3 c4
  have hmf : ∀ (fn : Fn) (first cap : Array Value) (w : World), (Instr.makeFunc fn first cap).run Tryd.prog w = .ok (.func fn first cap) w := fun _ _ _ _ => rfl
  have hbw := hR.lt
  have hon := must_on (l := l) isName (s := ⟨p, none⟩) hp
  rw [hM] at hon
  go_enter Tryd.func99, Tryd.ntmps99
  go_wp2_with fail
  have hbW : Below w.heap.size w (w.alloc (.cells #[.int .i64 0, .string ⟨#[]⟩, .string ⟨#[]⟩, .int .i64 0, .string ⟨#[]⟩, .slice none 0 0, .slice none 0 0] 42)) := by go_grown
  have XB := new_gbox w 42
  have hR0 := hR.keep hbW
  have hg0 := grown_belowB (grown_refl w b) hbW
  generalize w.alloc (.cells #[.int .i64 0, .string ⟨#[]⟩, .string ⟨#[]⟩, .int .i64 0, .string ⟨#[]⟩, .slice none 0 0, .slice none 0 0] 42) = w0 at XB hR0 hg0 ⊢
  clear hbW hR c0 c1 c2 c3 c4 fr lt
  have hne1 : ¬ w.heap.size = b := by omega
  have hne2 : ¬ b = w.heap.size := by omega
  have hcall := must_any isName 111 #[] (fun _ _ => by kernel_rfl) l b p none w0 hl hp hR0 (fun x w' hx _ => refIsName_any x w' (by omega))
  rw [hM] at hcall
  refine hcall.mono ?_; clear hcall
  rintro e w1 ⟨rfl, hg, hR1⟩
  have hg1 := grown_trans hg0 hg
  replace XB := XB.grown' hg (by omega)
  clear hg hR0 hg0 hM
  clear w0
  simp only at hR1
  rename_i Kx hkx Ky hky
  have HKX := Lib.hid hkx
  clear hkx
  go_wp2_with fail
  have hbN : Below w1.heap.size w1 (w1.alloc (.cells #[.string ⟨W.toArray⟩] 9)) := (Below.refl _ _).alloc (Nat.le_refl _) _
  have NB := OBox.new w1 (.string ⟨W.toArray⟩) 9
  have XB2 := XB.keep hbN XB.lt
  have hR2 := hR1.keep hbN
  have hg2 := grown_belowB hg1 hbN
  have hXl := XB.lt
  have hbl := hR1.lt
  generalize w1.alloc (.cells #[.string ⟨W.toArray⟩] 9) = w2 at NB XB2 hR2 hg2 ⊢
  clear hbN XB hR1 hg1
  generalize w1.heap.size = N at NB hXl hbl ⊢
  clear w1
  have hn1 : ¬ N = b := by omega
  have hn2 : ¬ b = N := by omega
  have hn3 : ¬ N = w.heap.size := by omega
  have hn4 : ¬ w.heap.size = N := by omega
  refine HKX.out _ _ ?_
  clear HKX
  clear hXl hbl
  obtain ⟨n0, n1⟩ := id NB
  obtain ⟨x0, x1, x2, x3, x4, x5, x6, x7, x8⟩ := id XB2
  go_wp2_with fail
  refine (must_any isVar 34 #[] (fun _ _ => by kernel_rfl) l b p1 bad1 w2 hl hon.2.1 hR2 (fun x w' hx _ => refIsVar_any x w' (by omega))).mono ?_
  have hon3 := (hon.trans (must_on (l := l) isVar (s := ⟨p1, bad1⟩) hon.2.1)).mono (d' := 1) (by omega)
  generalize must l isVar ⟨p1, bad1⟩ = M3 at *
  obtain ⟨nm, q3, bd3⟩ := M3
  rintro e w3 ⟨rfl, hg, hR3⟩
  have hg3 := grown_trans hg2 hg
  have XB3 := XB2.grown' hg (by omega)
  clear hg hR2 hg2 XB2 NB n0 n1 x0 x1 x2 x3 x4 x5 x6 x7 x8
  clear w2
  go_wp2_with fail
  refine (Is_any [46] w3).mono ?_
  rintro e wi ⟨rfl, hwi⟩
  have hbi : Below w3.heap.size w3 wi := by rw [hwi]; exact (Below.refl _ _).alloc (Nat.le_refl _) _
  have hci : wi.cell? ⟨w3.heap.size, 0, none⟩ = some (.string ⟨([46] : Str).toArray⟩) := by rw [hwi]; exact is_cell _ _ _
  have hNi : w3.heap.size ≠ b := by have := hR3.lt; omega
  have hRi := hR3.keep hbi
  have hgi := grown_belowB hg3 hbi
  have XBi := XB3.keep hbi XB3.lt
  clear hwi hR3 hg3 XB3
  generalize w3.heap.size = NI at hci hNi ⊢
  go_wp2_with fail
  refine (must_is [46] NI l b q3 bd3 wi hl hon3.2.1 hRi hNi hci).mono ?_
  have hon4 := (hon3.trans (must_on (l := l) (isW [46]) (s := ⟨q3, bd3⟩) hon3.2.1)).mono (d' := 1) (by omega)
  generalize must l (isW [46]) ⟨q3, bd3⟩ = M4 at *
  obtain ⟨y4, q4, bd4⟩ := M4
  rintro e w4 ⟨rfl, hg, hR4⟩
  have hg4 := grown_trans hgi hg
  have XB4 := XBi.grown' hg (by omega)
  clear hg hRi hgi hci hNi hbi XBi
  go_wp2_with fail
  refine (ih ⟨q4, bd4⟩ w4 hon4.2.1 (fun h => by have h1 : p + 1 ≤ q4 := (hon4.2.2 h).2; show l.length < n + q4; omega) hR4).mono ?_
  generalize gscanF l n ⟨q4, bd4⟩ = TT at *
  obtain ⟨t, q8, bd8⟩ := TT
  rintro e w7 ⟨hg, v, rfl, hT, hR7⟩
  have hg7 := grown_trans hg4 hg
  have hltm := XB4.lt
  have hzm := hg.size
  have XB7 := XB4.grown' hg (by omega)
  clear hg hR4 hg4
  replace hT : GlV (fun k => w4.heap.size ≤ k) w7 v t := hT
  simp only at hR7
  obtain ⟨lv, kv, rfl, k1, k2⟩ := hT
  have K1 := Lib.hid k1; have K2 := Lib.hid k2
  obtain ⟨A1, c1, rfl, -, -⟩ := k1
  obtain ⟨A2, c2, rfl, -, -⟩ := k2
  obtain ⟨x0, x1, x2, x3, x4, x5, x6, x7, x8⟩ := id XB7
  rename_i Kx hkx Ky hky
  have HKX := Lib.hid hkx
  clear hkx
  go_wp2_with fail
  obtain ⟨hF, hgF, hRF, hT⟩ := gfinishKS hbw (Nat.le_refl _) (m := w4.heap.size) hltm hzm hg7 hR7 XB7 8 [] [] 0 nm _ [t] (.cons t _ _ [] [] K1.out K2.out .nil) 42
  simp only [List.length_cons, List.length_nil] at hF hgF hRF hT
  generalize ((((((((w7.setCell ⟨w.heap.size, 0, none⟩ (.int .i64 8)).setCell ⟨w.heap.size, 1, none⟩ (.string ⟨#[]⟩)).setCell ⟨w.heap.size, 2, none⟩ (.string ⟨#[]⟩)).setCell ⟨w.heap.size, 3, none⟩ (.int .i64 0)).setCell ⟨w.heap.size, 4, none⟩ (.string ⟨nm.toArray⟩)).setCell ⟨w.heap.size, 5, none⟩ (.slice none 0 0)).setCell ⟨w.heap.size, 6, none⟩ (.slice (some ⟨w7.heap.size, 0, none⟩) 1 1)).alloc _) = wF at hF hgF hRF hT ⊢
  obtain ⟨d0, d1, d2, d3, d4, d5, d6, d7, d8⟩ := hF
  refine HKX.out _ _ ?_
  clear HKX
  go_wp2_with fail
  refine bodyPost_ret (v := .agg #[.int .i64 8, .string ⟨#[]⟩, .string ⟨#[]⟩, .int .i64 0, .string ⟨nm.toArray⟩, .slice none 0 0, .slice (some ⟨w7.heap.size, 0, none⟩) 1 1]) (by simp [results, Tryd.results99, go_sem, d0, d1, d2, d3, d4, d5, d6, Gl.kind, Gl.frm, Gl.rcv, Gl.sort, Gl.name]) rfl ?_
  rw [← HRES.out]
  exact ⟨hgF, _, rfl, hT, hRF⟩
end
end Go.Proofs.YtcacembpegoghaaDoor
