/-
  The reference's reader of a type: ScanType, by cases of the word that stands there.
-/
import Derived.Test.YtcacembpegoghaaDoorRdR2
import Derived.Test.YtcacembpegoghaaDoorRdS2
import Derived.Test.YtcacembpegoghaaDoorRdO3
namespace Go.Proofs.YtcacembpegoghaaDoor
open Go.RowKit Go.Proofs

set_option maxRecDepth 100000
/-- What the reference's reader answers. -/
def AnsR (w : World) (b : Nat) (l : Str) (r : Ty × St) (e : Ending) (w' : World) : Prop := w.grownBy w' (some b) ∧ ∃ v, e = .returned v ∧ TyD (fun k => w.heap.size ≤ k) w' v r.1 ∧ SBox w' b l r.2
theorem finishS {w w7 : World} {b X : Nat} {l : Str} {q : St} {t0 : Ty} {lv0 kv0 : Value} (hb : b < w.heap.size) (hX : w.heap.size ≤ X) (hg : w.grownBy w7 (some b)) (hR : SBox w7 b l q) (XB : VBox w7 X t0 lv0 kv0) (k s : Int) (n : Str) (ls : List Str) (ks : List Ty) (lv kv : Value)
    (h1 : StrsD (fun k => w.heap.size ≤ k ∧ k ≠ X) w7 lv ls) (h2 : TysD (fun k => w.heap.size ≤ k ∧ k ≠ X) w7 kv ks) :
    VBox (((((w7.setCell ⟨X, 0, none⟩ (.int .i64 k)).setCell ⟨X, 1, none⟩ (.int .i64 s)).setCell ⟨X, 2, none⟩ (.string ⟨n.toArray⟩)).setCell ⟨X, 3, none⟩ lv).setCell ⟨X, 4, none⟩ kv) X (.mk k s n ls ks) lv kv ∧ w.grownBy (((((w7.setCell ⟨X, 0, none⟩ (.int .i64 k)).setCell ⟨X, 1, none⟩ (.int .i64 s)).setCell ⟨X, 2, none⟩ (.string ⟨n.toArray⟩)).setCell ⟨X, 3, none⟩ lv).setCell ⟨X, 4, none⟩ kv) (some b) ∧ SBox (((((w7.setCell ⟨X, 0, none⟩ (.int .i64 k)).setCell ⟨X, 1, none⟩ (.int .i64 s)).setCell ⟨X, 2, none⟩ (.string ⟨n.toArray⟩)).setCell ⟨X, 3, none⟩ lv).setCell ⟨X, 4, none⟩ kv) b l q ∧ TyD (fun k => w.heap.size ≤ k) (((((w7.setCell ⟨X, 0, none⟩ (.int .i64 k)).setCell ⟨X, 1, none⟩ (.int .i64 s)).setCell ⟨X, 2, none⟩ (.string ⟨n.toArray⟩)).setCell ⟨X, 3, none⟩ lv).setCell ⟨X, 4, none⟩ kv) (.agg #[.int .i64 k, .int .i64 s, .string ⟨n.toArray⟩, lv, kv]) (.mk k s n ls ks) := by
  have hne : X ≠ b := by omega
  have hs : Same (fun k => w.heap.size ≤ k ∧ k ≠ X) w7 (((((w7.setCell ⟨X, 0, none⟩ (.int .i64 k)).setCell ⟨X, 1, none⟩ (.int .i64 s)).setCell ⟨X, 2, none⟩ (.string ⟨n.toArray⟩)).setCell ⟨X, 3, none⟩ lv).setCell ⟨X, 4, none⟩ kv) := Same.fill (fun h => h.2 rfl) _ _ _ _ _
  refine ⟨XB.fill (.mk k s n ls ks) lv kv, grown_in (grown_in (grown_in (grown_in (grown_in hg hX _) hX _) hX _) hX _) hX _, ((((hR.far hne _).far hne _).far hne _).far hne _).far hne _, ?_⟩
  exact ⟨lv, kv, rfl, h1.keep hs (fun _ h _ => h.1), h2.keep hs (fun _ h _ => h.1)⟩
theorem finishKS {w w7 : World} {b X m : Nat} {l : Str} {q : St} {t0 : Ty} {lv0 kv0 : Value} (hb : b < w.heap.size) (hX : w.heap.size ≤ X) (hXm : X < m) (hm : m ≤ w7.heap.size) (hg : w.grownBy w7 (some b)) (hR : SBox w7 b l q) (XB : VBox w7 X t0 lv0 kv0) (k s : Int) (n : Str) (xs : List Value) (ts : List Ty) (hc : Cells5D (fun k => m ≤ k) w7 xs ts) (E : TypeId) :
    VBox ((((((w7.setCell ⟨X, 0, none⟩ (.int .i64 k)).setCell ⟨X, 1, none⟩ (.int .i64 s)).setCell ⟨X, 2, none⟩ (.string ⟨n.toArray⟩)).setCell ⟨X, 3, none⟩ (.slice none 0 0)).setCell ⟨X, 4, none⟩ (.slice (some ⟨w7.heap.size, 0, none⟩) ts.length ts.length)).alloc (.cells xs.toArray E)) X (.mk k s n [] ts) (.slice none 0 0) (.slice (some ⟨w7.heap.size, 0, none⟩) ts.length ts.length) ∧ w.grownBy ((((((w7.setCell ⟨X, 0, none⟩ (.int .i64 k)).setCell ⟨X, 1, none⟩ (.int .i64 s)).setCell ⟨X, 2, none⟩ (.string ⟨n.toArray⟩)).setCell ⟨X, 3, none⟩ (.slice none 0 0)).setCell ⟨X, 4, none⟩ (.slice (some ⟨w7.heap.size, 0, none⟩) ts.length ts.length)).alloc (.cells xs.toArray E)) (some b) ∧ SBox ((((((w7.setCell ⟨X, 0, none⟩ (.int .i64 k)).setCell ⟨X, 1, none⟩ (.int .i64 s)).setCell ⟨X, 2, none⟩ (.string ⟨n.toArray⟩)).setCell ⟨X, 3, none⟩ (.slice none 0 0)).setCell ⟨X, 4, none⟩ (.slice (some ⟨w7.heap.size, 0, none⟩) ts.length ts.length)).alloc (.cells xs.toArray E)) b l q ∧
      TyD (fun k => w.heap.size ≤ k) ((((((w7.setCell ⟨X, 0, none⟩ (.int .i64 k)).setCell ⟨X, 1, none⟩ (.int .i64 s)).setCell ⟨X, 2, none⟩ (.string ⟨n.toArray⟩)).setCell ⟨X, 3, none⟩ (.slice none 0 0)).setCell ⟨X, 4, none⟩ (.slice (some ⟨w7.heap.size, 0, none⟩) ts.length ts.length)).alloc (.cells xs.toArray E)) (.agg #[.int .i64 k, .int .i64 s, .string ⟨n.toArray⟩, .slice none 0 0, .slice (some ⟨w7.heap.size, 0, none⟩) ts.length ts.length]) (.mk k s n [] ts) := by
  have hne : X ≠ b := by omega
  have hs : Same (fun k => m ≤ k) w7 (((((w7.setCell ⟨X, 0, none⟩ (.int .i64 k)).setCell ⟨X, 1, none⟩ (.int .i64 s)).setCell ⟨X, 2, none⟩ (.string ⟨n.toArray⟩)).setCell ⟨X, 3, none⟩ (.slice none 0 0)).setCell ⟨X, 4, none⟩ (.slice (some ⟨w7.heap.size, 0, none⟩) ts.length ts.length)) := Same.fill (by omega) _ _ _ _ _
  have hz : ((((((w7.setCell ⟨X, 0, none⟩ (.int .i64 k)).setCell ⟨X, 1, none⟩ (.int .i64 s)).setCell ⟨X, 2, none⟩ (.string ⟨n.toArray⟩)).setCell ⟨X, 3, none⟩ (.slice none 0 0)).setCell ⟨X, 4, none⟩ (.slice (some ⟨w7.heap.size, 0, none⟩) ts.length ts.length))).heap.size = w7.heap.size := by simp only [World.size_setCell]
  have hV := XB.fill (.mk k s n [] ts) (.slice none 0 0) (.slice (some ⟨w7.heap.size, 0, none⟩) ts.length ts.length)
  have hG : w.grownBy (((((w7.setCell ⟨X, 0, none⟩ (.int .i64 k)).setCell ⟨X, 1, none⟩ (.int .i64 s)).setCell ⟨X, 2, none⟩ (.string ⟨n.toArray⟩)).setCell ⟨X, 3, none⟩ (.slice none 0 0)).setCell ⟨X, 4, none⟩ (.slice (some ⟨w7.heap.size, 0, none⟩) ts.length ts.length)) (some b) := grown_in (grown_in (grown_in (grown_in (grown_in hg hX _) hX _) hX _) hX _) hX _
  have hRR : SBox (((((w7.setCell ⟨X, 0, none⟩ (.int .i64 k)).setCell ⟨X, 1, none⟩ (.int .i64 s)).setCell ⟨X, 2, none⟩ (.string ⟨n.toArray⟩)).setCell ⟨X, 3, none⟩ (.slice none 0 0)).setCell ⟨X, 4, none⟩ (.slice (some ⟨w7.heap.size, 0, none⟩) ts.length ts.length)) b l q := ((((hR.far hne _).far hne _).far hne _).far hne _).far hne _
  simp only [Ty.kind, Ty.sort, Ty.name] at hV
  generalize (((((w7.setCell ⟨X, 0, none⟩ (.int .i64 k)).setCell ⟨X, 1, none⟩ (.int .i64 s)).setCell ⟨X, 2, none⟩ (.string ⟨n.toArray⟩)).setCell ⟨X, 3, none⟩ (.slice none 0 0)).setCell ⟨X, 4, none⟩ (.slice (some ⟨w7.heap.size, 0, none⟩) ts.length ts.length)) = w8 at hs hz hV hG hRR ⊢
  have hbel : Below w8.heap.size w8 (w8.alloc (.cells xs.toArray E)) := (Below.refl _ _).alloc (Nat.le_refl _) _
  refine ⟨hV.keep hbel hV.lt, grown_belowB hG hbel, hRR.keep hbel, _, _, rfl, no_strs _ _, _, _, rfl, Nat.le_refl _, fun _ => ⟨w7.heap.size, 0, rfl, by have := hg.size; omega, ?_⟩⟩
  have h9 : Same (fun k => m ≤ k) w7 (w8.alloc (.cells xs.toArray E)) := hs.trans (by omega) (Same.below hbel)
  refine (hc.keep h9 (fun k hk _ => by show w.heap.size ≤ k; omega)).row 0 fun j u hj => ?_
  rw [Nat.zero_add, World.cell?_alloc_at _ _ _ _ hz.symm]
  simpa using hj

theorem must_is (c : Str) (N : Nat) (l : Str) (b p : Nat) (bad : Option Nat) (w : World) (hl : l.length ≤ 2000) (hp : p ≤ l.length) (hR : SBox w b l ⟨p, bad⟩) (hN : N ≠ b) (hc : w.cell? ⟨N, 0, none⟩ = some (.string ⟨c.toArray⟩)) :
    Calls Tryd.prog 179 #[.pointer (some ⟨b, 0, none⟩), isFn ⟨N, 0, none⟩] w fun e w' => e = .returned (.string ⟨(must l (isW c) ⟨p, bad⟩).1.toArray⟩) ∧ w.grownBy w' (some b) ∧ SBox w' b l (must l (isW c) ⟨p, bad⟩).2 :=
  must_any (isW c) 245 #[.pointer (some ⟨N, 0, none⟩)] (fun _ _ => by kernel_rfl) l b p bad w hl hp hR fun x w' _ hg =>
    (Is1_any c x N w' ((Same.grown (D := (· ≠ b)) hg (fun k hk e => hk (by injection e))).cell hN hc)).mono fun _ _ ⟨h1, h2⟩ => ⟨h1, h2 ▸ Below.refl _ _⟩
theorem is_cell (c : Str) (w : World) (E : TypeId) : (w.alloc (.cells #[.string ⟨c.toArray⟩] E)).cell? ⟨w.heap.size, 0, none⟩ = some (.string ⟨c.toArray⟩) := by simp [go_sem]

section
variable (l : Str) (b p : Nat) (w : World) (hl : l.length ≤ 2000) (hp : p ≤ l.length)
include hl hp
omit hl hp in
set_option maxHeartbeats 2000000 in
/-- Where it has failed. -/
theorem scan_bad (q : Nat) (hR : SBox w b l ⟨p, some q⟩) : Calls Tryd.prog 108 #[.pointer (some ⟨b, 0, none⟩)] w (AnsR w b l (zeroTy, ⟨p, some q⟩)) := by
  obtain ⟨c0, c1, c2, c3, c4, fr, lt⟩ := id hR
  simp only [codeOf, placeOf] at c3 c4
  have hbw := hR.lt
  have hmf : ∀ (fn : Fn) (first cap : Array Value) (w : World), (Instr.makeFunc fn first cap).run Tryd.prog w = .ok (.func fn first cap) w := fun _ _ _ _ => rfl
  go_enter Tryd.func108, Tryd.ntmps108
  go_wp2_with fail
  have hF := new_box w 51
  have hbW : Below w.heap.size w (w.alloc (.cells #[.int .i64 0, .int .i64 0, .string ⟨#[]⟩, .slice none 0 0, .slice none 0 0] 51)) := by go_grown
  have hRF := hR.keep hbW
  have hgF := grown_belowB (grown_refl w b) hbW
  generalize w.alloc (.cells #[.int .i64 0, .int .i64 0, .string ⟨#[]⟩, .slice none 0 0, .slice none 0 0] 51) = w5 at hF hRF hgF ⊢
  obtain ⟨d0, d1, d2, d3, d4, d5, d6⟩ := hF
  refine bodyPost_ret (v := .agg #[.int .i64 0, .int .i64 0, .string ⟨([] : Str).toArray⟩, .slice none 0 0, .slice none 0 0]) (by simp [results, Tryd.results108, go_sem, d0, d1, d2, d3, d4, zeroTy, Ty.kind, Ty.sort, Ty.name]) rfl ?_
  exact ⟨hgF, _, rfl, ⟨_, _, rfl, no_strs _ _, no_tys _ _⟩, hRF⟩
set_option maxHeartbeats 4000000 in
theorem scan_end (hR : SBox w b l ⟨p, none⟩) (W : Str) (p1 : Nat) (bad1 : Option Nat) (hM : must l startOk ⟨p, none⟩ = (W, ⟨p1, bad1⟩)) (hW : W = endW) : Calls Tryd.prog 108 #[.pointer (some ⟨b, 0, none⟩)] w (AnsR w b l (.mk 1 0 [] [] [], ⟨p1, bad1⟩)) := by
  subst hW
  obtain ⟨c0, c1, c2, c3, c4, fr, lt⟩ := id hR
  simp only [codeOf, placeOf] at c3 c4
  have hmf : ∀ (fn : Fn) (first cap : Array Value) (w : World), (Instr.makeFunc fn first cap).run Tryd.prog w = .ok (.func fn first cap) w := fun _ _ _ _ => rfl
  have hbw := hR.lt
  have hon := must_on (l := l) startOk (s := ⟨p, none⟩) hp
  rw [hM] at hon
  simp only [On] at hon
  go_enter Tryd.func108, Tryd.ntmps108
  go_wp2_with fail
  have XB := new_box w 51
  have hbW : Below w.heap.size w (w.alloc (.cells #[.int .i64 0, .int .i64 0, .string ⟨#[]⟩, .slice none 0 0, .slice none 0 0] 51)) := by go_grown
  have hR0 := hR.keep hbW
  have hg0 := grown_belowB (grown_refl w b) hbW
  generalize w.alloc (.cells #[.int .i64 0, .int .i64 0, .string ⟨#[]⟩, .slice none 0 0, .slice none 0 0] 51) = w0 at XB hR0 hg0 ⊢
  clear hbW hR c0 c1 c2 c3 c4 fr lt
  have hne1 : ¬ w.heap.size = b := by omega
  have hne2 : ¬ b = w.heap.size := by omega
  have hcall := must_any startOk 192 #[] (fun _ _ => by kernel_rfl) l b p none w0 hl hp hR0 (fun x w' hx _ => is1_start x w' hx)
  rw [hM] at hcall
  refine hcall.mono ?_; clear hcall
  rintro e w1 ⟨rfl, hg, hR1⟩
  have hg1 := grown_trans hg0 hg
  replace XB := XB.grown' hg (by omega)
  clear hg hR0 hg0 hM
  clear w0
  simp only at hR1
  obtain ⟨x0, x1, x2, x3, x4, x5, x6⟩ := id XB
  go_wp2_with fail
  obtain ⟨hF, hgF, hRF, hT⟩ := finishS hbw (Nat.le_refl _) hg1 hR1 XB (1) 0 [] [] [] (.slice none 0 0) (.slice none 0 0) (no_strs _ _) (no_tys _ _)
  generalize (((((w1.setCell ⟨w.heap.size, 0, none⟩ (.int .i64 1)).setCell ⟨w.heap.size, 1, none⟩ (.int .i64 0)).setCell ⟨w.heap.size, 2, none⟩ (.string ⟨#[]⟩)).setCell ⟨w.heap.size, 3, none⟩ (.slice none 0 0)).setCell ⟨w.heap.size, 4, none⟩ (.slice none 0 0)) = w5 at hF hgF hRF hT ⊢
  obtain ⟨d0, d1, d2, d3, d4, d5, d6⟩ := hF
  refine bodyPost_ret (v := .agg #[.int .i64 (1), .int .i64 0, .string ⟨([] : Str).toArray⟩, .slice none 0 0, .slice none 0 0]) (by simp [results, Tryd.results108, go_sem, d0, d1, d2, d3, d4, Ty.kind, Ty.sort, Ty.name]) rfl ?_
  exact ⟨hgF, _, rfl, hT, hRF⟩
set_option maxHeartbeats 4000000 in
theorem scan_var (hR : SBox w b l ⟨p, none⟩) (W : Str) (p1 : Nat) (bad1 : Option Nat) (hM : must l startOk ⟨p, none⟩ = (W, ⟨p1, bad1⟩)) (h1 : W ≠ endW) (h2 : W ≠ recW) (h3 : W ≠ [33]) (h4 : W ≠ [63]) (h5 : W ≠ [43]) (h6 : W ≠ [38]) : Calls Tryd.prog 108 #[.pointer (some ⟨b, 0, none⟩)] w (AnsR w b l (.mk 9 0 W [] [], ⟨p1, bad1⟩)) := by
  have n1 : (W == [101, 110, 100]) = false := by simpa [endW] using h1
  have n2 : (W == [114, 101, 99]) = false := by simpa [recW] using h2
  have n3 : (W == [33]) = false := by simpa using h3
  have n4 : (W == [63]) = false := by simpa using h4
  have n5 : (W == [43]) = false := by simpa using h5
  have n6 : (W == [38]) = false := by simpa using h6
  obtain ⟨c0, c1, c2, c3, c4, fr, lt⟩ := id hR
  simp only [codeOf, placeOf] at c3 c4
  have hmf : ∀ (fn : Fn) (first cap : Array Value) (w : World), (Instr.makeFunc fn first cap).run Tryd.prog w = .ok (.func fn first cap) w := fun _ _ _ _ => rfl
  have hbw := hR.lt
  have hon := must_on (l := l) startOk (s := ⟨p, none⟩) hp
  rw [hM] at hon
  simp only [On] at hon
  go_enter Tryd.func108, Tryd.ntmps108
  go_wp2_with fail
  have XB := new_box w 51
  have hbW : Below w.heap.size w (w.alloc (.cells #[.int .i64 0, .int .i64 0, .string ⟨#[]⟩, .slice none 0 0, .slice none 0 0] 51)) := by go_grown
  have hR0 := hR.keep hbW
  have hg0 := grown_belowB (grown_refl w b) hbW
  generalize w.alloc (.cells #[.int .i64 0, .int .i64 0, .string ⟨#[]⟩, .slice none 0 0, .slice none 0 0] 51) = w0 at XB hR0 hg0 ⊢
  clear hbW hR c0 c1 c2 c3 c4 fr lt
  have hne1 : ¬ w.heap.size = b := by omega
  have hne2 : ¬ b = w.heap.size := by omega
  have hcall := must_any startOk 192 #[] (fun _ _ => by kernel_rfl) l b p none w0 hl hp hR0 (fun x w' hx _ => is1_start x w' hx)
  rw [hM] at hcall
  refine hcall.mono ?_; clear hcall
  rintro e w1 ⟨rfl, hg, hR1⟩
  have hg1 := grown_trans hg0 hg
  replace XB := XB.grown' hg (by omega)
  clear hg hR0 hg0 hM
  clear w0
  simp only at hR1
  obtain ⟨x0, x1, x2, x3, x4, x5, x6⟩ := id XB
  go_wp2_with fail
  obtain ⟨hF, hgF, hRF, hT⟩ := finishS hbw (Nat.le_refl _) hg1 hR1 XB (9) 0 W [] [] (.slice none 0 0) (.slice none 0 0) (no_strs _ _) (no_tys _ _)
  generalize (((((w1.setCell ⟨w.heap.size, 0, none⟩ (.int .i64 9)).setCell ⟨w.heap.size, 1, none⟩ (.int .i64 0)).setCell ⟨w.heap.size, 2, none⟩ (.string ⟨W.toArray⟩)).setCell ⟨w.heap.size, 3, none⟩ (.slice none 0 0)).setCell ⟨w.heap.size, 4, none⟩ (.slice none 0 0)) = w5 at hF hgF hRF hT ⊢
  obtain ⟨d0, d1, d2, d3, d4, d5, d6⟩ := hF
  refine bodyPost_ret (v := .agg #[.int .i64 (9), .int .i64 0, .string ⟨(W : Str).toArray⟩, .slice none 0 0, .slice none 0 0]) (by simp [results, Tryd.results108, go_sem, d0, d1, d2, d3, d4, Ty.kind, Ty.sort, Ty.name]) rfl ?_
  exact ⟨hgF, _, rfl, hT, hRF⟩
set_option maxHeartbeats 4000000 in
theorem scan_rec (hR : SBox w b l ⟨p, none⟩) (W : Str) (p1 : Nat) (bad1 : Option Nat) (hM : must l startOk ⟨p, none⟩ = (W, ⟨p1, bad1⟩)) (hW : W = recW) (n : Nat) (ih : ∀ (s : St) (w : World), s.p ≤ l.length → (s.bad = none → l.length < n + s.p) → SBox w b l s → Calls Tryd.prog 108 #[.pointer (some ⟨b, 0, none⟩)] w (AnsR w b l (scanF l n s))) (hn : l.length < n + 1 + p) : Calls Tryd.prog 108 #[.pointer (some ⟨b, 0, none⟩)] w (AnsR w b l (.mk 8 0 (must l isVar ⟨p1, bad1⟩).1 [] [(scanF l n (must l (isW [46]) (must l isVar ⟨p1, bad1⟩).2).2).1], (scanF l n (must l (isW [46]) (must l isVar ⟨p1, bad1⟩).2).2).2)) := by
  subst hW
  obtain ⟨c0, c1, c2, c3, c4, fr, lt⟩ := id hR
  simp only [codeOf, placeOf] at c3 c4
  have hmf : ∀ (fn : Fn) (first cap : Array Value) (w : World), (Instr.makeFunc fn first cap).run Tryd.prog w = .ok (.func fn first cap) w := fun _ _ _ _ => rfl
  have hbw := hR.lt
  have hon := must_on (l := l) startOk (s := ⟨p, none⟩) hp
  rw [hM] at hon
  go_enter Tryd.func108, Tryd.ntmps108
  go_wp2_with fail
  have XB := new_box w 51
  have hbW : Below w.heap.size w (w.alloc (.cells #[.int .i64 0, .int .i64 0, .string ⟨#[]⟩, .slice none 0 0, .slice none 0 0] 51)) := by go_grown
  have hR0 := hR.keep hbW
  have hg0 := grown_belowB (grown_refl w b) hbW
  generalize w.alloc (.cells #[.int .i64 0, .int .i64 0, .string ⟨#[]⟩, .slice none 0 0, .slice none 0 0] 51) = w0 at XB hR0 hg0 ⊢
  clear hbW hR c0 c1 c2 c3 c4 fr lt
  have hne1 : ¬ w.heap.size = b := by omega
  have hne2 : ¬ b = w.heap.size := by omega
  have hcall := must_any startOk 192 #[] (fun _ _ => by kernel_rfl) l b p none w0 hl hp hR0 (fun x w' hx _ => is1_start x w' hx)
  rw [hM] at hcall
  refine hcall.mono ?_; clear hcall
  rintro e w1 ⟨rfl, hg, hR1⟩
  have hg1 := grown_trans hg0 hg
  replace XB := XB.grown' hg (by omega)
  clear hg hR0 hg0 hM
  clear w0
  simp only at hR1
  obtain ⟨x0, x1, x2, x3, x4, x5, x6⟩ := id XB
  go_wp2_with fail
  refine (must_any isVar 34 #[] (fun _ _ => by kernel_rfl) l b p1 bad1 w1 hl hon.2.1 hR1 (fun x w' hx _ => refIsVar_any x w' (by omega))).mono ?_
  have hon2 := (hon.trans (must_on (l := l) isVar (s := ⟨p1, bad1⟩) hon.2.1)).mono (d' := 1) (by omega)
  generalize must l isVar ⟨p1, bad1⟩ = M2 at *
  obtain ⟨nm, q2, bd2⟩ := M2
  rintro e w2 ⟨rfl, hg, hR2⟩
  have hg2 := grown_trans hg1 hg
  replace XB := XB.grown' hg (by omega)
  clear hg hR1 hg1 x0 x1 x2 x3 x4 x5 x6
  clear w1
  go_wp2_with fail
  refine (Is_any [46] w2).mono ?_
  rintro e wi ⟨rfl, hwi⟩
  have hbi : Below w2.heap.size w2 wi := by rw [hwi]; exact (Below.refl _ _).alloc (Nat.le_refl _) _
  have hci : wi.cell? ⟨w2.heap.size, 0, none⟩ = some (.string ⟨([46] : Str).toArray⟩) := by rw [hwi]; exact is_cell _ _ _
  have hNi : w2.heap.size ≠ b := by have := hR2.lt; omega
  have hRi := hR2.keep hbi
  have hgi := grown_belowB hg2 hbi
  replace XB := XB.keep hbi XB.lt
  clear hwi hR2 hg2
  generalize w2.heap.size = NI at hci hNi ⊢
  go_wp2_with fail
  refine (must_is [46] NI l b q2 bd2 wi hl hon2.2.1 hRi hNi hci).mono ?_
  have hon3 := (hon2.trans (must_on (l := l) (isW [46]) (s := ⟨q2, bd2⟩) hon2.2.1)).mono (d' := 1) (by omega)
  generalize must l (isW [46]) ⟨q2, bd2⟩ = M3 at *
  obtain ⟨y3, q3, bd3⟩ := M3
  rintro e w3 ⟨rfl, hg, hR3⟩
  have hg3 := grown_trans hgi hg
  replace XB := XB.grown' hg (by omega)
  clear hg hRi hgi hci hNi hbi
  go_wp2_with fail
  refine (ih ⟨q3, bd3⟩ w3 hon3.2.1 (fun h => by have h1 : p + 1 ≤ q3 := (hon3.2.2 h).2; show l.length < n + q3; omega) hR3).mono ?_
  generalize scanF l n ⟨q3, bd3⟩ = TT at *
  obtain ⟨t, q4, bd4⟩ := TT
  rintro e w7 ⟨hg, v, rfl, hT, hR7⟩
  have hg7 := grown_trans hg3 hg
  have hlt3 := XB.lt
  have hz37 := hg.size
  replace XB := XB.grown' hg (by omega)
  clear hg hR3 hg3
  obtain ⟨lv, kv, rfl, k1, k2⟩ := hT
  simp only at k1 k2
  have K1 := Lib.hid k1; have K2 := Lib.hid k2
  obtain ⟨A1, c1, rfl, -, -⟩ := k1
  obtain ⟨A2, c2, rfl, -, -⟩ := k2
  obtain ⟨x0, x1, x2, x3, x4, x5, x6⟩ := id XB
  go_wp2_with fail
  obtain ⟨hF, hgF, hRF, hT⟩ := finishKS hbw (Nat.le_refl _) (m := w3.heap.size) hlt3 hz37 hg7 hR7 XB 8 0 nm _ [t] (.cons t _ _ [] [] K1.out K2.out .nil) 51
  simp only [List.length_cons, List.length_nil] at hF hgF hRF hT
  generalize ((((((w7.setCell ⟨w.heap.size, 0, none⟩ (.int .i64 8)).setCell ⟨w.heap.size, 1, none⟩ (.int .i64 0)).setCell ⟨w.heap.size, 2, none⟩ (.string ⟨nm.toArray⟩)).setCell ⟨w.heap.size, 3, none⟩ (.slice none 0 0)).setCell ⟨w.heap.size, 4, none⟩ (.slice (some ⟨w7.heap.size, 0, none⟩) 1 1)).alloc _) = w9 at hF hgF hRF hT ⊢
  obtain ⟨d0, d1, d2, d3, d4, d5, d6⟩ := hF
  refine bodyPost_ret (v := .agg #[.int .i64 8, .int .i64 0, .string ⟨nm.toArray⟩, .slice none 0 0, .slice (some ⟨w7.heap.size, 0, none⟩) 1 1]) (by simp [results, Tryd.results108, go_sem, d0, d1, d2, d3, d4, Ty.kind, Ty.sort, Ty.name]) rfl ?_
  exact ⟨hgF, _, rfl, hT, hRF⟩
end
end Go.Proofs.YtcacembpegoghaaDoor
