/-
  The program's reader of conversations: one, two roles.
-/
import Derived.Test.YtcacembpegoghaaDoorGlO2
import Derived.Test.YtcacembpegoghaaDoorGlR
import Derived.Test.YtcacembpegoghaaDoorHeld
namespace Go.Proofs.YtcacembpegoghaaDoor
open Go.RowKit Go.Proofs

set_option maxRecDepth 100000
/-- The row of sorts lies where it lay. -/
theorem GSorts.at {w w' : World} {b : Nat} {l : Str} {p gb go gc : Nat} (hR : RBox w b l p) (hg : w.grownBy w' (some b)) (h' : GSorts w') (hc : w.cell? ⟨0, 0, none⟩ = some (.slice (some ⟨gb, go, none⟩) 4 gc)) :
    w'.cell? ⟨0, 0, none⟩ = some (.slice (some ⟨gb, go, none⟩) 4 gc) ∧ StrRow w' gb go [[], [105, 110, 116], [98, 111, 111, 108], [116, 101, 120, 116]] := by
  have hne : 0 ≠ b := by
    rintro rfl
    have h := hR.c0
    rw [hc] at h
    cases h
  have e := (World.cell?_of_block (a := ⟨0, 0, none⟩) (hg.block _ (cell_lt hc) (fun e => hne (Option.some.inj e)))).trans hc
  obtain ⟨gb', go', gc', h1, h2, h3⟩ := h'
  rw [e] at h1
  injection h1 with h1
  injection h1 with h1 h4 h5
  injection h1 with h1
  injection h1 with h1 h6
  subst h1 h6
  exact ⟨e, h3⟩
/-- How the tail of a sending has laid its one kid. -/
def TailF (w0 : World) (b G X : Nat) (l : Str) (p : Nat) (T T0 : Gl) (lv lv0 kv0 x : Value) (t : Gl) (w' : World) : Prop := GBox w' G T lv x ∧ GBox w' X T0 lv0 kv0 ∧ RBox w' b l p ∧ w0.grownBy w' (some b) ∧ Gls (fun k => w0.heap.size ≤ k ∧ k ≠ w0.heap.size) w' x [t]
theorem tailF_of {w0 w' : World} {base G g cap X b p : Nat} {l : Str} {T T0 t : Gl} {lv lv0 kv0 a0 a1 a2 a3 a4 a5 a6 x : Value} (GB : GBox w' G T lv x) (XB : GBox w' X T0 lv0 kv0) (hR : RBox w' b l p) (hg : w0.grownBy w' (some b))
    (own : w'.ownsRow base 42 7 (.slice (some ⟨g, 0, none⟩) 1 cap) 1 [a0, a1, a2, a3, a4, a5, a6]) (hc : Cells7 (fun k => G < k ∧ k ≠ g) w' [a0, a1, a2, a3, a4, a5, a6] [t]) (h0 : w0.heap.size < base) (h1 : w0.heap.size < G) (hx : x = .slice (some ⟨g, 0, none⟩) 1 cap) : TailF w0 b G X l p T T0 lv lv0 kv0 x t w' := by
  subst hx
  exact ⟨GB, XB, hR, hg, own_gls (ts := [t]) own (hc.keep (fun _ _ _ => rfl) (fun k hk _ => ⟨by omega, by omega⟩)) (fun k hk => ⟨by omega, by omega⟩)⟩
set_option maxHeartbeats 1000000 in
theorem put_tail {w0 w : World} {base G g cap X b p : Nat} {l : Str} {T T0 t : Gl} {lv kv lv0 kv0 z0 z1 z2 z3 z4 z5 z6 a0 a1 a2 a3 a4 a5 a6 : Value} (GB : GBox w G T lv kv) (XB : GBox w X T0 lv0 kv0) (hR : RBox w b l p) (hg : w0.grownBy w (some b))
    (hown : w.ownsRow base 42 7 (.slice (some ⟨g, 0, none⟩) (0 + 1) cap) (0 + 1) ([] ++ [z0, z1, z2, z3, z4, z5, z6])) (hc : Cells7 (fun k => G < k ∧ k ≠ g) w [a0, a1, a2, a3, a4, a5, a6] [t]) (hX : X = w0.heap.size) (h0 : w0.heap.size < base) (h1 : w0.heap.size < G) (h2 : G < base) (h3 : b < w0.heap.size) (h4 : base ≤ g) (x : Value) (hx : x = .slice (some ⟨g, 0, none⟩) 1 cap) :
    TailF w0 b G X l p T T0 lv lv0 kv0 x t ((((((((w.setCell ⟨g, 0, none⟩ a0).setCell ⟨g, 1, none⟩ a1).setCell ⟨g, 2, none⟩ a2).setCell ⟨g, 3, none⟩ a3).setCell ⟨g, 4, none⟩ a4).setCell ⟨g, 5, none⟩ a5).setCell ⟨g, 6, none⟩ a6).setCell ⟨G, 6, none⟩ x) ∧ TailF w0 b G X l p T T0 lv lv0 kv0 x t (((((((((w.setCell ⟨G, 6, none⟩ x).setCell ⟨g, 0, none⟩ a0).setCell ⟨g, 1, none⟩ a1).setCell ⟨g, 2, none⟩ a2).setCell ⟨g, 3, none⟩ a3).setCell ⟨g, 4, none⟩ a4).setCell ⟨g, 5, none⟩ a5).setCell ⟨g, 6, none⟩ a6)) := by
  subst hX
  have own0 := own_put7 (n := 0) (xs := []) hown rfl a0 a1 a2 a3 a4 a5 a6
  simp only [Nat.zero_mul, Nat.zero_add] at own0
  refine ⟨?_, ?_⟩
  · obtain ⟨f1, f2, f3, f4, -, -⟩ := put7_facts w g 0 a0 a1 a2 a3 a4 a5 a6
    simp only [Nat.zero_add] at f1 f2 f3 f4
    have hs : Same (fun k => G < k ∧ k ≠ g) w ((((((((w.setCell ⟨g, 0, none⟩ a0).setCell ⟨g, 1, none⟩ a1).setCell ⟨g, 2, none⟩ a2).setCell ⟨g, 3, none⟩ a3).setCell ⟨g, 4, none⟩ a4).setCell ⟨g, 5, none⟩ a5).setCell ⟨g, 6, none⟩ a6).setCell ⟨G, 6, none⟩ x) := (f4 (D := fun k => G < k ∧ k ≠ g) (fun h => h.2 rfl)).trans (by simp only [World.size_setCell]; omega) (Same.set (fun h => by have := h.1; simp only at this; omega))
    have own1 := own_set (p := ⟨G, 6, none⟩) own0 h2 x
    exact tailF_of ((f1 GB (by omega)).put6 x) ((f1 XB (by omega)).far (p := ⟨G, 6, none⟩) (show G ≠ w0.heap.size by omega) x) ((f2 hR (by omega)).far (a := ⟨G, 6, none⟩) (show G ≠ b by omega) x) (grown_in (a := ⟨G, 6, none⟩) (f3 hg (by omega)) (show w0.heap.size ≤ G by omega) x) own1 (hc.keep hs (fun k hk _ => hk)) h0 h1 hx
  · obtain ⟨f1, f2, f3, f4, -, -⟩ := put7_facts (w.setCell ⟨G, 6, none⟩ x) g 0 a0 a1 a2 a3 a4 a5 a6
    simp only [Nat.zero_add] at f1 f2 f3 f4
    have hs : Same (fun k => G < k ∧ k ≠ g) w (((((((((w.setCell ⟨G, 6, none⟩ x).setCell ⟨g, 0, none⟩ a0).setCell ⟨g, 1, none⟩ a1).setCell ⟨g, 2, none⟩ a2).setCell ⟨g, 3, none⟩ a3).setCell ⟨g, 4, none⟩ a4).setCell ⟨g, 5, none⟩ a5).setCell ⟨g, 6, none⟩ a6)) := (Same.set (p := ⟨G, 6, none⟩) (u := x) (fun h => by have := h.1; simp only at this; omega)).trans (by simp only [World.size_setCell]; omega) (f4 (D := fun k => G < k ∧ k ≠ g) (fun h => h.2 rfl))
    have own1 := own_put7 (n := 0) (xs := []) (own_set (p := ⟨G, 6, none⟩) hown h2 x) rfl a0 a1 a2 a3 a4 a5 a6
    simp only [Nat.zero_mul, Nat.zero_add] at own1
    exact tailF_of (f1 (GB.put6 x) (by omega)) (f1 (XB.far (p := ⟨G, 6, none⟩) (show G ≠ w0.heap.size by omega) x) (by omega)) (f2 (hR.far (a := ⟨G, 6, none⟩) (show G ≠ b by omega) x) (by omega)) (f3 (grown_in (a := ⟨G, 6, none⟩) hg (show w0.heap.size ≤ G by omega) x) (by omega)) own1 (hc.keep hs (fun k hk _ => hk)) h0 h1 hx
theorem sort_zero {U : Str} (h : decide (0 < sortIx U) = false) : sortIx U = 0 := by have := of_decide_eq_false h; have := sortIx_nonneg U; omega
section
variable (l : Str) (b p : Nat) (w : World) (hl : l.length ≤ 2000) (hp : p ≤ l.length) (hR : RBox w b l p)
include hl hp hR
set_option maxHeartbeats 16000000 in
theorem gone_pair (S : World → Prop) (hSk : ∀ w w' : World, S w → w.grownBy w' (some b) → S w') (hS : S w) (n : Nat) (ih : ∀ (p : Nat) (w : World), p ≤ l.length → l.length < n + p → S w → RBox w b l p → Calls Tryd.prog 95 #[.pointer (some ⟨b, 0, none⟩)] w (GAns w b l (gdOne l n p))) (hSo : ∀ w : World, S w → GSorts w) (hn : l.length < n + 1 + p) (W : Str) (h : wd l (sk l p) = W) (hN : isName (wd l (sk l p)) = true) (h1 : W ≠ endW) (h2 : W ≠ recW) (hs62 : l[sk l (sk l p + W.length)]? = some 62) (hro : isRole W = true) : Calls Tryd.prog 95 #[.pointer (some ⟨b, 0, none⟩)] w (GAns w b l (gdPair l (gdOne l n) W (sk l (sk l p + W.length) + 1))) := by
  have h62 : decide (l[sk l (sk l p + W.length)]? = some 62) = true := by simpa using hs62
  clear hs62
  have HR := Lib.hid hro; clear hro
  have hs := sk_le hp
  have hw := wd_le hs.2
  have hcall := fun w hR => gword_ok isName 110 #[] (fun _ _ => by kernel_rfl) l b p w hl hp hR (fun x w' hx _ => isName_any x w' (by omega)) hN
  rw [h] at hw hcall
  generalize sk l p = q at hs hw hcall h62 ⊢
  clear h hN
  have e1 : (W == [101, 110, 100]) = false := by simpa [endW] using h1
  have e2 : (W == [114, 101, 99]) = false := by simpa [recW] using h2
  have hsQ := sk_le (l := l) (p := q + W.length) hw
  have hcal := fun w2 hR2 => gis_any l b (q + W.length) 62 w2 hl hw hR2
  rw [h62] at hcal
  have hQ1 : sk l (q + W.length) + 1 ≤ l.length := at_lt (of_decide_eq_true h62)
  generalize sk l (q + W.length) = Q at hsQ hcal hQ1 ⊢
  clear h62
  obtain ⟨RES, hRES⟩ : ∃ r, gdPair l (gdOne l n) W (Q + 1) = r := ⟨_, rfl⟩
  rw [hRES]
  have HRES := Lib.hid hRES; clear hRES
  have hQp : p ≤ Q := by omega
  have hbw := hR.lt
  have hmf : ∀ (fn : Fn) (first cap : Array Value) (w : World), (Instr.makeFunc fn first cap).run Tryd.prog w = .ok (.func fn first cap) w := fun _ _ _ _ => rfl
  go_enter Tryd.func95, Tryd.ntmps95
  go_wp2_with fail
  have hbW : Below w.heap.size w (w.alloc (.cells #[.int .i64 0, .string ⟨#[]⟩, .string ⟨#[]⟩, .int .i64 0, .string ⟨#[]⟩, .slice none 0 0, .slice none 0 0] 42)) := by go_grown
  have XB := new_gval w zeroGl (.slice none 0 0) (.slice none 0 0) 42
  simp only [zeroGl, Gl.kind, Gl.frm, Gl.rcv, Gl.sort, Gl.name] at XB
  have hR0 := hR.keep hbW
  have hg0 := grown_belowB (grown_refl w b) hbW
  generalize w.alloc (.cells #[.int .i64 0, .string ⟨#[]⟩, .string ⟨#[]⟩, .int .i64 0, .string ⟨#[]⟩, .slice none 0 0, .slice none 0 0] 42) = w0 at XB hR0 hg0 ⊢
  clear hbW hR
  have hne1 : ¬ w.heap.size = b := by omega
  have hne2 : ¬ b = w.heap.size := by omega
  refine (hcall w0 hR0).mono ?_; clear hcall
  rintro e w1 ⟨rfl, hg, hR1⟩
  have hg1 := grown_trans hg0 hg
  replace XB := XB.grown' hg (by omega)
  clear hg hR0 hg0
  clear w0
  rename_i Kx hkx Ky hky
  have HKX := Lib.hid hkx
  clear hkx
  go_wp2_with fail
  have hbN : Below w1.heap.size w1 (w1.alloc (.cells #[.string ⟨W.toArray⟩] 9)) := (Below.refl _ _).alloc (Nat.le_refl _) _
  have NB := OBox.new w1 (.string ⟨W.toArray⟩) 9
  have XB2 := XB.keep hbN XB.lt
  have hR2 := hR1.keep hbN
  have hg2 := grown_belowB hg1 hbN
  have hXl := XB.lt
  have hbl := hR1.lt
  generalize w1.alloc (.cells #[.string ⟨W.toArray⟩] 9) = w2 at NB XB2 hR2 hg2 ⊢
  clear hbN XB hR1 hg1
  generalize w1.heap.size = N at NB hXl hbl ⊢
  clear w1
  have hn1 : ¬ N = b := by omega
  have hn2 : ¬ b = N := by omega
  have hn3 : ¬ N = w.heap.size := by omega
  have hn4 : ¬ w.heap.size = N := by omega
  refine HKX.out _ _ ?_
  clear HKX
  clear hXl hbl
  obtain ⟨n0, n1⟩ := id NB
  obtain ⟨x0, x1, x2, x3, x4, x5, x6, x7, x8⟩ := id XB2
  go_wp2_with fail
  refine (hcal w2 hR2).mono ?_; clear hcal
  rintro e w3 ⟨rfl, hg, hR3⟩
  have hg3 := grown_trans hg2 hg
  have XB3 := XB2.grown' hg (by omega)
  have NB3 := NB.grown' hg (by omega)
  clear hg hR2 hg2 XB2 NB n0 n1 x0 x1 x2 x3 x4 x5 x6 x7 x8
  clear w2
  obtain ⟨n0, n1⟩ := id NB3
  obtain ⟨x0, x1, x2, x3, x4, x5, x6, x7, x8⟩ := id XB3
  go_wp2_with fail
  refine (isRole_any W w3 (by omega)).mono ?_; rw [HR.out]; rintro e w4 ⟨rfl, hb4⟩
  have XB4 := XB3.keep hb4 XB3.lt
  have NB4 := NB3.keep hb4
  have hR4 := hR3.keep hb4
  have hg4 := grown_belowB hg3 hb4
  clear hb4 hR3 hg3 XB3 NB3 n0 n1 x0 x1 x2 x3 x4 x5 x6 x7 x8
  clear w3
  obtain ⟨r0, r1, r2, r3⟩ := id hR4
  go_wp2_with fail
  have hR5 := hR4.set (Q + 1)
  have e4 : ((Q + 1 : Nat) : Int) = (Q : Int) + 1 := by omega
  rw [e4] at hR5
  have hg5 := grown_trans hg4 (grown_at w4 b 1 (.int .i64 ((Q : Int) + 1)))
  have XB5 := XB4.far (p := ⟨b, 1, none⟩) hne2 (.int .i64 ((Q : Int) + 1))
  have NB5 := NB4.far (p := ⟨b, 1, none⟩) hn2 (.int .i64 ((Q : Int) + 1))
  generalize w4.setCell ⟨b, 1, none⟩ (.int .i64 ((Q : Int) + 1)) = w5 at hR5 hg5 XB5 NB5 ⊢
  clear hR4 hg4 XB4 NB4 r0 r1 r2 r3 e4
  clear w4
  have hcalV := fun w' (R : RBox w' b l (Q + 1)) hr (hv : otherOk W (wd l (sk l (Q + 1))) = true) => gword_ok (otherOk W) 174 #[.pointer (some ⟨N, 0, none⟩)] (fun _ _ => by kernel_rfl) l b (Q + 1) w' hl hQ1 R hr hv
  have hcalB := fun w' (R : RBox w' b l (Q + 1)) hr (hv : otherOk W (wd l (sk l (Q + 1))) = false) => gword_bad (otherOk W) 174 #[.pointer (some ⟨N, 0, none⟩)] (fun _ _ => by kernel_rfl) l b (Q + 1) w' hl hQ1 R hr hv
  have HRP : Hid ((if otherOk W (wd l (sk l (Q + 1))) = false then .bad (sk l (Q + 1)) else if l[sk l ((sk l (Q + 1)) + (wd l (sk l (Q + 1))).length)]? = some 123 then (gdChoice l (gdOne l n) 7 (sk l ((sk l (Q + 1)) + (wd l (sk l (Q + 1))).length) + 1) [] []).seq fun x p3 => .ok (.mk 6 W (wd l (sk l (Q + 1))) 0 [] x.1 x.2) p3 else gdSend l (gdOne l n) W (wd l (sk l (Q + 1))) (sk l ((sk l (Q + 1)) + (wd l (sk l (Q + 1))).length)) : Rd Gl) = RES) := Lib.hid (by rw [← HRES.out]; rfl)
  clear HRES
  have hs1 := sk_le (l := l) hQ1
  have hw1 := wd_le hs1.2
  generalize sk l (Q + 1) = q1 at hs1 hw1 hcalV hcalB HRP
  generalize wd l q1 = V at hw1 hcalV hcalB HRP
  refine wp_region_T 6 (fun w' : World => w'.cell? ⟨N, 0, none⟩ = some (.string ⟨W.toArray⟩)) (by kernel_rfl) ?_
  have hbd : Below w5.heap.size w5 w5.drew := (Below.refl _ _).drew
  have XB6 := XB5.keep hbd XB5.lt
  have NB6 := NB5.keep hbd
  have hR6 := hR5.keep hbd
  have hg6 := grown_belowB hg5 hbd
  generalize w5.drew = w6 at XB6 NB6 hR6 hg6 ⊢
  clear hbd XB5 NB5 hR5 hg5
  clear w5
  have HSd : Hid ((fun w' : World => w'.cell? ⟨N, 0, none⟩ = some (.string ⟨W.toArray⟩)) w6) := Lib.hid NB6.c
  refine wpT_take (i := 0) (v := ?_) rfl (by kernel_rfl) (by kernel_rfl) (by kernel_rfl) (by kernel_rfl) (fun _ _ _ h => h) (Or.inl ⟨by rfl, ?_⟩) HSd.out ?_
  rotate_left
  · (intro wq hSw; have z6 := hSw; go_simp; all_goals (first | (with_reducible rfl) | (rw [if_neg (by first | omega | (simp; omega) | (simp only [List.length_append, List.length_cons, List.length_nil]; omega))])))
  simp only [List.getElem_toArray, List.getElem_cons_succ, List.getElem_cons_zero, Act.put, List.setIfInBounds_toArray, List.set_cons_zero, List.set_cons_succ]
  refine wpT_take (i := 1) (v := ?_) rfl (by kernel_rfl) (by kernel_rfl) (by kernel_rfl) (by kernel_rfl) (fun _ _ _ h => h) (Or.inl ⟨by rfl, ?_⟩) HSd.out ?_
  rotate_left
  · (intro wq hSw; have z6 := hSw; go_simp; all_goals (first | (with_reducible rfl) | (rw [if_neg (by first | omega | (simp; omega) | (simp only [List.length_append, List.length_cons, List.length_nil]; omega))])))
  simp only [List.getElem_toArray, List.getElem_cons_succ, List.getElem_cons_zero, Act.put, List.setIfInBounds_toArray, List.set_cons_zero, List.set_cons_succ]
  refine wpT_take (i := 2) (v := ?_) rfl (by kernel_rfl) (by kernel_rfl) (by kernel_rfl) (by kernel_rfl) (fun _ _ _ h => h) (Or.inl ⟨by rfl, ?_⟩) HSd.out ?_
  rotate_left
  · (intro wq hSw; have z6 := hSw; go_simp; all_goals (first | (with_reducible rfl) | (rw [if_neg (by first | omega | (simp; omega) | (simp only [List.length_append, List.length_cons, List.length_nil]; omega))])))
  simp only [List.getElem_toArray, List.getElem_cons_succ, List.getElem_cons_zero, Act.put, List.setIfInBounds_toArray, List.set_cons_zero, List.set_cons_succ]
  refine wpT_two (i := 3) (j := 5) rfl rfl (by kernel_rfl) (fun K hK => ?_) (fun K hK => ?_)
  go_simp
  have hr2 : ∀ (x : Str) (w' : World), x.length ≤ 2000 → w6.grownBy w' (some b) → Calls Tryd.prog 174 (#[.string ⟨x.toArray⟩] ++ #[.pointer (some ⟨N, 0, none⟩)]) w' fun e w'' => e = .returned (.bool (otherOk W x)) ∧ Below w'.heap.size w' w'' := fun x w' hx hg => g1_any x W N w' hx (NB6.grown' hg (by omega)).c
  rcases (Bool.eq_false_or_eq_true (otherOk W V)).symm with hv | hv
  · refine (hcalB w6 hR6 hr2 hv).mono ?_
    rintro e w9 ⟨rfl, hg⟩
    refine ⟨rfl, ?_⟩
    rw [← HRP.out, if_pos hv]
    exact ⟨grown_trans hg6 hg, rfl⟩
  have HRV : Hid ((if l[sk l (q1 + V.length)]? = some 123 then (gdChoice l (gdOne l n) 7 (sk l (q1 + V.length) + 1) [] []).seq fun x p3 => .ok (.mk 6 W V 0 [] x.1 x.2) p3 else gdSend l (gdOne l n) W V (sk l (q1 + V.length)) : Rd Gl) = RES) := Lib.hid ((if_neg (show ¬ otherOk W V = false by rw [hv]; simp)).symm.trans HRP.out)
  refine (hcalV w6 hR6 hr2 hv).mono ?_
  rintro e w7 ⟨rfl, hg, hR7⟩
  have hg7 := grown_trans hg6 hg
  have XB7 := XB6.grown' hg (by omega)
  have NB7 := NB6.grown' hg (by omega)
  clear hr2 hv HRP hg hR6 hg6 XB6 NB6 HSd hcalV hcalB
  clear w6
  refine hK.out _ _ (fun _ => NB7.c) ?_
  clear hK K
  try simp only [List.getElem_toArray, List.getElem_cons_succ, List.getElem_cons_zero, Act.put, List.setIfInBounds_toArray, List.set_cons_zero, List.set_cons_succ]
  refine wpT_take (i := 4) (v := ?_) rfl (by kernel_rfl) (by kernel_rfl) (by kernel_rfl) (by kernel_rfl) (fun _ _ _ h => h) (Or.inl ⟨by rfl, ?_⟩) NB7.c ?_
  rotate_left
  · (intro wq hSw; go_simp; all_goals (first | (with_reducible rfl)))
  simp only [List.getElem_toArray, List.getElem_cons_succ, List.getElem_cons_zero, Act.put, List.setIfInBounds_toArray, List.set_cons_zero, List.set_cons_succ]
  refine wpT_one (i := 5) rfl (by kernel_rfl) fun K hK => ?_
  go_simp
  have hb8 : Below w7.heap.size w7 (w7.alloc (.cells #[.int .i64 0, .string ⟨#[]⟩, .string ⟨#[]⟩, .int .i64 0, .string ⟨#[]⟩, .slice none 0 0, .slice none 0 0] 42)) := (Below.refl _ _).alloc (Nat.le_refl _) _
  have GB8 := new_gbox w7 42
  have XB8 := XB7.keep hb8 XB7.lt
  have NB8 := NB7.keep hb8
  have hR8 := hR7.keep hb8
  have hg8 := grown_belowB hg7 hb8
  have hXG := XB7.lt
  generalize w7.alloc (.cells #[.int .i64 0, .string ⟨#[]⟩, .string ⟨#[]⟩, .int .i64 0, .string ⟨#[]⟩, .slice none 0 0, .slice none 0 0] 42) = w8 at GB8 XB8 NB8 hR8 hg8 ⊢
  clear hb8 hR7 hg7 XB7 NB7
  generalize w7.heap.size = G at GB8 hXG ⊢
  clear w7
  refine hK.out _ _ (fun _ => NB8.c) ?_
  clear hK K
  try simp only [List.getElem_toArray, List.getElem_cons_succ, List.getElem_cons_zero, Act.put, List.setIfInBounds_toArray, List.set_cons_zero, List.set_cons_succ]
  rotate_left
  go_simp
  have hb7 : Below w6.heap.size w6 (w6.alloc (.cells #[.int .i64 0, .string ⟨#[]⟩, .string ⟨#[]⟩, .int .i64 0, .string ⟨#[]⟩, .slice none 0 0, .slice none 0 0] 42)) := (Below.refl _ _).alloc (Nat.le_refl _) _
  have GB7 := new_gbox w6 42
  have XB7 := XB6.keep hb7 XB6.lt
  have NB7 := NB6.keep hb7
  have hR7 := hR6.keep hb7
  have hg7 := grown_belowB hg6 hb7
  have hXG := XB6.lt
  generalize w6.alloc (.cells #[.int .i64 0, .string ⟨#[]⟩, .string ⟨#[]⟩, .int .i64 0, .string ⟨#[]⟩, .slice none 0 0, .slice none 0 0] 42) = w7 at GB7 XB7 NB7 hR7 hg7 ⊢
  clear hb7 hR6 hg6 XB6 NB6 HSd
  generalize w6.heap.size = G at GB7 hXG ⊢
  clear w6
  refine hK.out _ _ (fun _ => NB7.c) ?_
  clear hK K
  try simp only [List.getElem_toArray, List.getElem_cons_succ, List.getElem_cons_zero, Act.put, List.setIfInBounds_toArray, List.set_cons_zero, List.set_cons_succ]
  refine wpT_one (i := 3) rfl (by kernel_rfl) fun K hK => ?_
  go_simp
  have hr2 : ∀ (x : Str) (w' : World), x.length ≤ 2000 → w7.grownBy w' (some b) → Calls Tryd.prog 174 (#[.string ⟨x.toArray⟩] ++ #[.pointer (some ⟨N, 0, none⟩)]) w' fun e w'' => e = .returned (.bool (otherOk W x)) ∧ Below w'.heap.size w' w'' := fun x w' hx hg => g1_any x W N w' hx (NB7.grown' hg (by omega)).c
  rcases (Bool.eq_false_or_eq_true (otherOk W V)).symm with hv | hv
  · refine (hcalB w7 hR7 hr2 hv).mono ?_
    rintro e w9 ⟨rfl, hg⟩
    refine ⟨rfl, ?_⟩
    rw [← HRP.out, if_pos hv]
    exact ⟨grown_trans hg7 hg, rfl⟩
  have HRV : Hid ((if l[sk l (q1 + V.length)]? = some 123 then (gdChoice l (gdOne l n) 7 (sk l (q1 + V.length) + 1) [] []).seq fun x p3 => .ok (.mk 6 W V 0 [] x.1 x.2) p3 else gdSend l (gdOne l n) W V (sk l (q1 + V.length)) : Rd Gl) = RES) := Lib.hid ((if_neg (show ¬ otherOk W V = false by rw [hv]; simp)).symm.trans HRP.out)
  refine (hcalV w7 hR7 hr2 hv).mono ?_
  rintro e w8 ⟨rfl, hg, hR8⟩
  have hg8 := grown_trans hg7 hg
  have XB8 := XB7.grown' hg (by omega)
  have NB8 := NB7.grown' hg (by omega)
  have GB8 := GB7.grown' hg (by omega)
  clear hr2 hv HRP hg hR7 hg7 XB7 NB7 GB7 hcalV hcalB
  clear w7
  refine hK.out _ _ (fun _ => NB8.c) ?_
  clear hK K
  try simp only [List.getElem_toArray, List.getElem_cons_succ, List.getElem_cons_zero, Act.put, List.setIfInBounds_toArray, List.set_cons_zero, List.set_cons_succ]
  refine wpT_take (i := 4) (v := ?_) rfl (by kernel_rfl) (by kernel_rfl) (by kernel_rfl) (by kernel_rfl) (fun _ _ _ h => h) (Or.inl ⟨by rfl, ?_⟩) NB8.c ?_
  rotate_left
  · (intro wq hSw; go_simp; all_goals (first | (with_reducible rfl)))
  simp only [List.getElem_toArray, List.getElem_cons_succ, List.getElem_cons_zero, Act.put, List.setIfInBounds_toArray, List.set_cons_zero, List.set_cons_succ]
  rotate_left
  all_goals
    obtain ⟨z0, z1, z2, z3, z4, z5, z6, z7, z8⟩ := id GB8
    refine wpT_one (i := 6) rfl (by kernel_rfl) fun K hK => ?_
    go_simp
    refine hK.out _ _ (fun h => absurd h (by decide)) ?_
    clear hK K
    try simp only [List.getElem_toArray, List.getElem_cons_succ, List.getElem_cons_zero, Act.put, List.setIfInBounds_toArray, List.set_cons_zero, List.set_cons_succ]
    refine wpT_done (by kernel_rfl) ?_
    have hGb : ¬ G = b := by omega
    have hbG : ¬ b = G := by omega
    have hGX : ¬ G = w.heap.size := by omega
    have hXGn : ¬ w.heap.size = G := by omega
    have GB9 := GB8.fill (.mk 0 W V 0 [] [] []) (.slice none 0 0) (.slice none 0 0)
    obtain ⟨f1, f2, f3, f4, f5⟩ := fill7_facts w8 G (.int .i64 0) (.string ⟨W.toArray⟩) (.string ⟨V.toArray⟩) (.int .i64 0) (.string ⟨#[]⟩) (.slice none 0 0) (.slice none 0 0)
    have XB9 := f1 XB8 hGX
    have hR9 := f2 hR8 hGb
    have hg9 := f3 hg8 (show w.heap.size ≤ G by omega)
    simp only [Gl.kind, Gl.frm, Gl.rcv, Gl.sort, Gl.name] at GB9
    clear f1 f2 f3 f4 f5 GB8 XB8 hR8 hg8 NB8
    generalize (((((((w8.setCell ⟨G, 0, none⟩ (.int .i64 0)).setCell ⟨G, 1, none⟩ (.string ⟨W.toArray⟩)).setCell ⟨G, 2, none⟩ (.string ⟨V.toArray⟩)).setCell ⟨G, 3, none⟩ (.int .i64 0)).setCell ⟨G, 4, none⟩ (.string ⟨#[]⟩)).setCell ⟨G, 5, none⟩ (.slice none 0 0)).setCell ⟨G, 6, none⟩ (.slice none 0 0)) = w9 at GB9 XB9 hR9 hg9 ⊢
    clear z0 z1 z2 z3 z4 z5 z6 z7 z8
    clear w8
    go_wp2_with fail
    by_cases h123 : l[sk l (q1 + V.length)]? = some 123
    case pos =>
      replace HRV := Lib.hid ((if_pos h123).symm.trans HRV.out)
      have hs2 := sk_le hw1
      refine (gis_any l b (q1 + V.length) 123 w9 hl hw1 hR9).mono ?_
      rw [decide_eq_true h123]
      rintro e w10 ⟨rfl, hg, hR10⟩
      have hg10 := grown_trans hg9 hg
      have XB10 := XB9.grown' hg (by omega)
      have GB10 := GB9.grown' hg hGb
      clear hg hR9 hg9 XB9 GB9
      clear w9
      generalize sk l (q1 + V.length) = q2 at hs2 h123 hR10 HRV ⊢
      have hlt2 := at_lt h123
      clear h123
      obtain ⟨r0, r1, r2, r3⟩ := id hR10
      obtain ⟨z0, z1, z2, z3, z4, z5, z6, z7, z8⟩ := id GB10
      go_wp2_with fail
      have hR11 := hR10.set (q2 + 1)
      have e4 : ((q2 + 1 : Nat) : Int) = (q2 : Int) + 1 := by omega
      rw [e4] at hR11
      replace hR11 := hR11.far (a := ⟨G, 0, none⟩) hGb (.int .i64 6)
      have hg11 := grown_in (a := ⟨G, 0, none⟩) (grown_trans hg10 (grown_at w10 b 1 (.int .i64 ((q2 : Int) + 1)))) (show w.heap.size ≤ G by omega) (.int .i64 6)
      have XB11 := (XB10.far (p := ⟨b, 1, none⟩) hne2 (.int .i64 ((q2 : Int) + 1))).far (p := ⟨G, 0, none⟩) hGX (.int .i64 6)
      have GB11 := (GB10.far (p := ⟨b, 1, none⟩) hbG (.int .i64 ((q2 : Int) + 1))).set0 6
      simp only [Gl.kind, Gl.frm, Gl.rcv, Gl.sort, Gl.name, Gl.labels, Gl.kids] at GB11
      generalize (w10.setCell ⟨b, 1, none⟩ (.int .i64 ((q2 : Int) + 1))).setCell ⟨G, 0, none⟩ (.int .i64 6) = w11 at hR11 hg11 XB11 GB11 ⊢
      clear hR10 hg10 XB10 GB10 r0 r1 r2 r3 z0 z1 z2 z3 z4 z5 z6 z7 z8
      clear w10
      have hX11 := XB11.lt
      refine (gchoice_any l b (q2 + 1) G w w11 (.mk 6 W V 0 [] [] []) hl (by omega) hR11 GB11 hg11 hbw (by omega) S hSk hS n ih (by omega)).mono ?_
      rintro e w12 ⟨hTw, hans⟩
      have XB12 := XB11.two hTw hne1 hXGn
      have hg12 := hTw.grown hg11 (show w.heap.size ≤ G by omega)
      clear hTw XB11 hg11 hR11 GB11
      rcases rd_cases (gdChoice l (gdOne l n) 7 (q2 + 1) [] []) with ⟨q', hr⟩ | ⟨u, p3, hr⟩
      · rw [hr] at hans
        simp only at hans
        subst hans
        refine ⟨rfl, ?_⟩
        rw [← HRV.out, hr]
        exact ⟨hg12, rfl⟩
      rw [hr] at hans
      obtain ⟨lv, kv, rfl, hR12, GB12, m1, m2⟩ := hans
      have HRW : Hid (Rd.ok (.mk 6 W V 0 [] u.1 u.2) p3 = RES) := Lib.hid (by rw [← HRV.out, hr]; rfl)
      clear HRV hr
      have M1 := Lib.hid (m1.keep (D' := fun k => w.heap.size ≤ k ∧ k ≠ w.heap.size) (fun _ _ _ => rfl) (fun k hk _ => ⟨by omega, by omega⟩))
      have M2 := Lib.hid (m2.keep (D' := fun k => w.heap.size ≤ k ∧ k ≠ w.heap.size) (fun _ _ _ => rfl) (fun k hk _ => ⟨by omega, by omega⟩))
      obtain ⟨A1, c1, rfl, -, -⟩ := m1
      obtain ⟨A2, c2, rfl, -, -⟩ := m2
      obtain ⟨z0, z1, z2, z3, z4, z5, z6, z7, z8⟩ := id GB12
      obtain ⟨x0, x1, x2, x3, x4, x5, x6, x7, x8⟩ := id XB12
      simp only [Gl.kind, Gl.frm, Gl.rcv, Gl.sort, Gl.name] at z0 z1 z2 z3 z4
      go_wp2_with fail
      obtain ⟨hF, hgF, hRF, hT⟩ := gfinish hbw (Nat.le_refl _) hg12 hR12 XB12 6 W V 0 [] u.1 u.2 (.slice A1 u.1.length c1) (.slice A2 u.2.length c2) M1.out M2.out
      generalize (((((((w12.setCell ⟨w.heap.size, 0, none⟩ (.int .i64 6)).setCell ⟨w.heap.size, 1, none⟩ (.string ⟨W.toArray⟩)).setCell ⟨w.heap.size, 2, none⟩ (.string ⟨V.toArray⟩)).setCell ⟨w.heap.size, 3, none⟩ (.int .i64 0)).setCell ⟨w.heap.size, 4, none⟩ (.string ⟨#[]⟩)).setCell ⟨w.heap.size, 5, none⟩ (.slice A1 u.1.length c1)).setCell ⟨w.heap.size, 6, none⟩ (.slice A2 u.2.length c2)) = wF at hF hgF hRF hT ⊢
      obtain ⟨d0, d1, d2, d3, d4, d5, d6, d7, d8⟩ := hF
      refine bodyPost_ret (v := .agg #[.int .i64 6, .string ⟨W.toArray⟩, .string ⟨V.toArray⟩, .int .i64 0, .string ⟨#[]⟩, .slice A1 u.1.length c1, .slice A2 u.2.length c2]) (by simp [results, Tryd.results95, go_sem, d0, d1, d2, d3, d4, d5, d6, Gl.kind, Gl.frm, Gl.rcv, Gl.sort, Gl.name]) rfl ?_
      refine ⟨hgF, ?_⟩
      rw [← HRW.out]
      exact ⟨_, rfl, hT, hRF⟩
    case neg =>
      replace HRV := Lib.hid ((if_neg h123).symm.trans HRV.out)
      have hs2 := sk_le hw1
      refine (gis_any l b (q1 + V.length) 123 w9 hl hw1 hR9).mono ?_
      rw [decide_eq_false h123]
      rintro e w10 ⟨rfl, hg, hR10⟩
      have hg10 := grown_trans hg9 hg
      have XB10 := XB9.grown' hg (by omega)
      have GB10 := GB9.grown' hg hGb
      clear hg hR9 hg9 XB9 GB9
      clear w9
      generalize sk l (q1 + V.length) = q2 at hs2 h123 hR10 HRV ⊢
      clear h123
      go_wp2_with fail
      by_cases h58 : l[sk l q2]? = some 58
      case neg =>
        have e1 : Rd.bad (sk l q2) = RES := by rw [← HRV.out, gdSend, sign_seq_bad h58]
        refine (gsign_bad l b q2 58 w10 hl hs2.2 hR10 h58).mono ?_
        rintro e w11 ⟨rfl, hg⟩
        refine ⟨rfl, ?_⟩
        rw [← e1]
        exact ⟨grown_trans hg10 hg, rfl⟩
      have hs3 := sk_le hs2.2
      have hlt3 := at_lt h58
      have HR4 : Hid ((if sortIx (wd l (sk l (sk l q2 + 1))) = 0 then .bad (sk l (sk l q2 + 1)) else (rdSign l 46 ((sk l (sk l q2 + 1)) + (wd l (sk l (sk l q2 + 1))).length)).seq fun _ p3 => (gdOne l n p3).seq fun t p4 => .ok (.mk 2 W V (sortIx (wd l (sk l (sk l q2 + 1)))) [] [] [t]) p4 : Rd Gl) = RES) := Lib.hid (by rw [← HRV.out, gdSend, sign_seq_ok h58])
      clear HRV
      refine (gsign_ok l b q2 58 w10 hl hs2.2 hR10 h58).mono ?_
      clear h58
      generalize sk l q2 = q3 at hs3 hlt3 HR4 ⊢
      rintro e w11 ⟨rfl, hg, hR11⟩
      have hg11 := grown_trans hg10 hg
      have XB11 := XB10.grown' hg (by omega)
      have GB11 := GB10.grown' hg hGb
      clear hg hR10 hg10 XB10 GB10
      clear w10
      obtain ⟨z0, z1, z2, z3, z4, z5, z6, z7, z8⟩ := id GB11
      go_wp2_with fail
      have hR12 := hR11.far (a := ⟨G, 0, none⟩) hGb (.int .i64 2)
      have hg12 := grown_in (a := ⟨G, 0, none⟩) hg11 (show w.heap.size ≤ G by omega) (.int .i64 2)
      have XB12 := XB11.far (p := ⟨G, 0, none⟩) hGX (.int .i64 2)
      have GB12 := GB11.set0 2
      simp only [Gl.kind, Gl.frm, Gl.rcv, Gl.sort, Gl.name, Gl.labels, Gl.kids] at GB12
      generalize w11.setCell ⟨G, 0, none⟩ (.int .i64 2) = w12 at hR12 hg12 XB12 GB12 ⊢
      clear hR11 hg11 XB11 GB11 z0 z1 z2 z3 z4 z5 z6 z7 z8
      clear w11
      have hq3 : q3 + 1 ≤ l.length := by omega
      have hcalV := fun w' (R : RBox w' b l (q3 + 1)) hr (hv : (fun x => decide (0 < sortIx x)) (wd l (sk l (q3 + 1))) = true) => gword_ok (fun x => decide (0 < sortIx x)) 177 #[] (fun _ _ => by kernel_rfl) l b (q3 + 1) w' hl hq3 R hr hv
      have hcalB := fun w' (R : RBox w' b l (q3 + 1)) hr (hv : (fun x => decide (0 < sortIx x)) (wd l (sk l (q3 + 1))) = false) => gword_bad (fun x => decide (0 < sortIx x)) 177 #[] (fun _ _ => by kernel_rfl) l b (q3 + 1) w' hl hq3 R hr hv
      have hs4 := sk_le hq3
      have hw4 := wd_le hs4.2
      generalize sk l (q3 + 1) = q4 at hs4 hw4 hcalV hcalB HR4
      generalize wd l q4 = U at hw4 hcalV hcalB HR4
      obtain ⟨gb, go, gc, eg0, hgc, -⟩ := hSo w12 (hSk w w12 hS hg12)
      refine wp_region_T 4 (fun w' : World => w'.cell? ⟨0, 0, none⟩ = some (.slice (some ⟨gb, go, none⟩) 4 gc)) (by kernel_rfl) ?_
      have hbd : Below w12.heap.size w12 w12.drew := (Below.refl _ _).drew
      have XB13 := XB12.keep hbd XB12.lt
      have GB13 := GB12.keep hbd GB12.lt
      have hR13 := hR12.keep hbd
      have hg13 := grown_belowB hg12 hbd
      have eg1 := cell_keep eg0 hbd
      generalize w12.drew = w13 at XB13 GB13 hR13 hg13 eg1 ⊢
      clear hbd XB12 GB12 hR12 hg12 eg0
      clear w12
      have HSd : Hid ((fun w' : World => w'.cell? ⟨0, 0, none⟩ = some (.slice (some ⟨gb, go, none⟩) 4 gc)) w13) := Lib.hid eg1
      refine wpT_take (i := 0) (v := ?_) rfl (by kernel_rfl) (by kernel_rfl) (by kernel_rfl) (by kernel_rfl) (fun _ _ _ h => h) (Or.inl ⟨by rfl, ?_⟩) HSd.out ?_
      rotate_left
      · (intro wq hSw; have z6 := hSw; go_simp; all_goals (first | (with_reducible rfl) | (rw [if_neg (by first | omega | (simp; omega) | (simp only [List.length_append, List.length_cons, List.length_nil]; omega))])))
      simp only [List.getElem_toArray, List.getElem_cons_succ, List.getElem_cons_zero, Act.put, List.setIfInBounds_toArray, List.set_cons_zero, List.set_cons_succ]
      refine wpT_take (i := 1) (v := ?_) rfl (by kernel_rfl) (by kernel_rfl) (by kernel_rfl) (by kernel_rfl) (fun _ _ _ h => h) (Or.inl ⟨by rfl, ?_⟩) HSd.out ?_
      rotate_left
      · (intro wq hSw; have z6 := hSw; go_simp; all_goals (first | (with_reducible rfl) | (rw [if_neg (by first | omega | (simp; omega) | (simp only [List.length_append, List.length_cons, List.length_nil]; omega))])))
      simp only [List.getElem_toArray, List.getElem_cons_succ, List.getElem_cons_zero, Act.put, List.setIfInBounds_toArray, List.set_cons_zero, List.set_cons_succ]
      refine wpT_one (i := 2) rfl (by kernel_rfl) fun K hK => ?_
      go_simp
      have hr2 : ∀ (x : Str) (w' : World), x.length ≤ 2000 → w13.grownBy w' (some b) → Calls Tryd.prog 177 (#[.string ⟨x.toArray⟩] ++ #[]) w' fun e w'' => e = .returned (.bool ((fun x => decide (0 < sortIx x)) x)) ∧ Below w'.heap.size w' w'' := fun x w' hx hg => g2_any x w' hx (hSo w' (hSk w w' hS (grown_trans hg13 hg)))
      rcases (Bool.eq_false_or_eq_true (decide (0 < sortIx U))).symm with hv | hv
      · have h0 : sortIx U = 0 := sort_zero hv
        refine (hcalB w13 hR13 hr2 hv).mono ?_
        rintro e w14 ⟨rfl, hg⟩
        refine ⟨rfl, ?_⟩
        rw [← HR4.out, if_pos h0]
        exact ⟨grown_trans hg13 hg, rfl⟩
      have h0 : ¬ sortIx U = 0 := by have := of_decide_eq_true hv; omega
      refine (hcalV w13 hR13 hr2 hv).mono ?_
      rintro e w14 ⟨rfl, hg, hR14⟩
      have hg14 := grown_trans hg13 hg
      have XB14 := XB13.grown' hg (by omega)
      have GB14 := GB13.grown' hg hGb
      obtain ⟨eg2, hrow⟩ := GSorts.at hR13 hg (hSo w14 (hSk w w14 hS hg14)) eg1
      clear hr2 hv hg hR13 hg13 XB13 GB13 HSd hcalV hcalB eg1
      clear w13
      have hidx := index_sorts (gc := gc) hrow U
      obtain ⟨X, hX⟩ : ∃ x, sortIx U = x := ⟨_, rfl⟩
      rw [ixOf_eq h0, hX] at hidx
      have HR5 : Hid (((rdSign l 46 (q4 + U.length)).seq fun _ p3 => (gdOne l n p3).seq fun t p4 => .ok (.mk 2 W V X [] [] [t]) p4 : Rd Gl) = RES) := Lib.hid (by rw [← HR4.out, if_neg h0, hX])
      clear HR4 hX hrow h0
      refine hK.out _ _ (fun _ => eg2) ?_
      clear hK K
      try simp only [List.getElem_toArray, List.getElem_cons_succ, List.getElem_cons_zero, Act.put, List.setIfInBounds_toArray, List.set_cons_zero, List.set_cons_succ]
      refine wpT_one (i := 3) rfl (by kernel_rfl) fun K hK => ?_
      go_simp
      refine hidx.mono ?_
      clear hidx
      rintro e w15 ⟨rfl, hw15⟩
      rw [hw15]
      clear hw15 w15
      refine hK.out _ _ (fun _ => eg2) ?_
      clear hK K
      try simp only [List.getElem_toArray, List.getElem_cons_succ, List.getElem_cons_zero, Act.put, List.setIfInBounds_toArray, List.set_cons_zero, List.set_cons_succ]
      obtain ⟨z0, z1, z2, z3, z4, z5, z6, z7, z8⟩ := id GB14
      refine wpT_one (i := 4) rfl (by kernel_rfl) fun K hK => ?_
      go_simp
      refine hK.out _ _ (fun h => absurd h (by decide)) ?_
      clear hK K
      try simp only [List.getElem_toArray, List.getElem_cons_succ, List.getElem_cons_zero, Act.put, List.setIfInBounds_toArray, List.set_cons_zero, List.set_cons_succ]
      refine wpT_one (i := 5) rfl (by kernel_rfl) fun K hK => ?_
      go_simp
      refine hK.out _ _ (fun h => absurd h (by decide)) ?_
      clear hK K
      try simp only [List.getElem_toArray, List.getElem_cons_succ, List.getElem_cons_zero, Act.put, List.setIfInBounds_toArray, List.set_cons_zero, List.set_cons_succ]
      refine wpT_done (by kernel_rfl) ?_
      have hR15 := hR14.far (a := ⟨G, 3, none⟩) hGb (.int .i64 X)
      have hg15 := grown_in (a := ⟨G, 3, none⟩) hg14 (show w.heap.size ≤ G by omega) (.int .i64 X)
      have XB15 := XB14.far (p := ⟨G, 3, none⟩) hGX (.int .i64 X)
      have GB15 := GB14.set3 X
      simp only [Gl.kind, Gl.frm, Gl.rcv, Gl.sort, Gl.name, Gl.labels, Gl.kids] at GB15
      generalize w14.setCell ⟨G, 3, none⟩ (.int .i64 X) = w15 at hR15 hg15 XB15 GB15 ⊢
      clear hR14 hg14 XB14 GB14 z0 z1 z2 z3 z4 z5 z6 z7 z8 eg2
      clear w14
      go_wp2_with fail
      by_cases h46 : l[sk l (q4 + U.length)]? = some 46
      case neg =>
        have e1 : Rd.bad (sk l (q4 + U.length)) = RES := by rw [← HR5.out, sign_seq_bad h46]
        refine (gsign_bad l b (q4 + U.length) 46 w15 hl hw4 hR15 h46).mono ?_
        rintro e w16 ⟨rfl, hg⟩
        refine ⟨rfl, ?_⟩
        rw [← e1]
        exact ⟨grown_trans hg15 hg, rfl⟩
      have hs6 := sk_le hw4
      have hlt6 := at_lt h46
      have HR6 : Hid (((gdOne l n (sk l (q4 + U.length) + 1)).seq fun t p4 => .ok (.mk 2 W V X [] [] [t]) p4 : Rd Gl) = RES) := Lib.hid (by rw [← HR5.out, sign_seq_ok h46])
      clear HR5
      refine (gsign_ok l b (q4 + U.length) 46 w15 hl hw4 hR15 h46).mono ?_
      clear h46
      generalize sk l (q4 + U.length) = q6 at hs6 hlt6 HR6 ⊢
      rintro e w16 ⟨rfl, hg, hR16⟩
      have hg16 := grown_trans hg15 hg
      have XB16 := XB15.grown' hg (by omega)
      have GB16 := GB15.grown' hg hGb
      clear hg hR15 hg15 XB15 GB15
      clear w15
      go_wp2_with fail
      refine wp_region_T 7 (fun w' : World => w'.cell? ⟨G, 6, none⟩ = some (.slice none 0 0)) (by kernel_rfl) ?_
      have hbd : Below w16.heap.size w16 w16.drew := (Below.refl _ _).drew
      have XB7 := XB16.keep hbd XB16.lt
      have GB7 := GB16.keep hbd GB16.lt
      have hR7 := hR16.keep hbd
      have hg7 := grown_belowB hg16 hbd
      generalize w16.drew = w7 at XB7 GB7 hR7 hg7 ⊢
      clear hbd XB16 GB16 hR16 hg16
      clear w16
      have hG7 := GB7.lt
      have hS7 := hSk w w7 hS hg7
      have HSd : Hid ((fun w' : World => w'.cell? ⟨G, 6, none⟩ = some (.slice none 0 0)) w7) := Lib.hid GB7.c6
      refine wpT_take (i := 0) (v := ?_) rfl (by kernel_rfl) (by kernel_rfl) (by kernel_rfl) (by kernel_rfl) (fun _ _ _ h => h) (Or.inl ⟨by rfl, ?_⟩) HSd.out ?_
      rotate_left
      · (intro wq hSw; have z6 := hSw; go_simp; all_goals (first | (with_reducible rfl) | (rw [if_neg (by first | omega | (simp; omega) | (simp only [List.length_append, List.length_cons, List.length_nil]; omega))])))
      simp only [List.getElem_toArray, List.getElem_cons_succ, List.getElem_cons_zero, Act.put, List.setIfInBounds_toArray, List.set_cons_zero, List.set_cons_succ]
      refine wpT_take (i := 1) (v := ?_) rfl (by kernel_rfl) (by kernel_rfl) (by kernel_rfl) (by kernel_rfl) (fun _ _ _ h => h) (Or.inl ⟨by rfl, ?_⟩) HSd.out ?_
      rotate_left
      · (intro wq hSw; have z6 := hSw; go_simp; all_goals (first | (with_reducible rfl) | (rw [if_neg (by first | omega | (simp; omega) | (simp only [List.length_append, List.length_cons, List.length_nil]; omega))])))
      simp only [List.getElem_toArray, List.getElem_cons_succ, List.getElem_cons_zero, Act.put, List.setIfInBounds_toArray, List.set_cons_zero, List.set_cons_succ]
      refine wpT_take (i := 2) (v := ?_) rfl (by kernel_rfl) (by kernel_rfl) (by kernel_rfl) (by kernel_rfl) (fun _ _ _ h => h) (Or.inl ⟨by rfl, ?_⟩) HSd.out ?_
      rotate_left
      · (intro wq hSw; have z6 := hSw; go_simp; all_goals (first | (with_reducible rfl) | (rw [if_neg (by first | omega | (simp; omega) | (simp only [List.length_append, List.length_cons, List.length_nil]; omega))])))
      simp only [List.getElem_toArray, List.getElem_cons_succ, List.getElem_cons_zero, Act.put, List.setIfInBounds_toArray, List.set_cons_zero, List.set_cons_succ]
      refine wpT_take (i := 4) (v := ?_) rfl (by kernel_rfl) (by kernel_rfl) (by kernel_rfl) (by kernel_rfl) (fun _ _ _ h => h) (Or.inl ⟨by rfl, ?_⟩) HSd.out ?_
      rotate_left
      · (intro wq hSw; have z6 := hSw; go_simp; all_goals (first | (with_reducible rfl) | (rw [if_neg (by first | omega | (simp; omega) | (simp only [List.length_append, List.length_cons, List.length_nil]; omega))])))
      simp only [List.getElem_toArray, List.getElem_cons_succ, List.getElem_cons_zero, Act.put, List.setIfInBounds_toArray, List.set_cons_zero, List.set_cons_succ]
      refine wpT_two (i := 3) (j := 5) rfl rfl (by kernel_rfl) (fun K hK => ?_) (fun K hK => ?_)
      go_simp
      refine (ih (q6 + 1) w7 (by omega) (by omega) (hSk w w7 hS hg7) hR7).mono ?_
      rintro e w8 ⟨hg, hans⟩
      have hg8 := grown_trans hg7 hg
      have XB8 := XB7.grown' hg (by omega)
      have GB8 := GB7.grown' hg hGb
      have hzz : w7.heap.size ≤ w8.heap.size := hg.size
      have hGz := GB7.lt
      rcases rd_cases (gdOne l n (q6 + 1)) with ⟨q', hr⟩ | ⟨t, p3, hr⟩
      · rw [hr] at hans
        simp only at hans
        subst hans
        refine ⟨rfl, ?_⟩
        rw [← HR6.out, hr]
        exact ⟨hg8, rfl⟩
      rw [hr] at hans
      obtain ⟨v, rfl, hT, hR8⟩ := hans
      have HR2 : Hid (Rd.ok (.mk 2 W V X [] [] [t]) p3 = RES) := Lib.hid (by rw [← HR6.out, hr]; rfl)
      clear hr
      obtain ⟨lv, kv, rfl, m1, m2⟩ := hT
      have M1 := Lib.hid (m1.keep (D' := fun k => G < k) (fun _ _ _ => rfl) (fun k hk _ => by omega))
      have M2 := Lib.hid (m2.keep (D' := fun k => G < k) (fun _ _ _ => rfl) (fun k hk _ => by omega))
      obtain ⟨A1, c1, rfl, -, -⟩ := m1
      obtain ⟨A2, c2, rfl, -, -⟩ := m2
      clear HR6
      clear hg hR7 hg7 XB7 GB7 HSd hS7 hG7
      refine hK.out _ _ (fun _ => GB8.c6) ?_
      clear hK K
      try simp only [List.getElem_toArray, List.getElem_cons_succ, List.getElem_cons_zero, Act.put, List.setIfInBounds_toArray, List.set_cons_zero, List.set_cons_succ]
      refine wpT_one (i := 5) rfl (by kernel_rfl) fun K hK => ?_
      go_simp
      have hb9 : Below w8.heap.size w8 (w8.alloc (.cells #[.int .i64 0, .string ⟨#[]⟩, .string ⟨#[]⟩, .int .i64 0, .string ⟨#[]⟩, .slice none 0 0, .slice none 0 0] 42)) := (Below.refl _ _).alloc (Nat.le_refl _) _
      have hs9 : ∀ j v, ([.int .i64 0, .string ⟨#[]⟩, .string ⟨#[]⟩, .int .i64 0, .string ⟨#[]⟩, .slice none 0 0, .slice none 0 0] : List Value)[j]? = some v → (w8.alloc (.cells #[.int .i64 0, .string ⟨#[]⟩, .string ⟨#[]⟩, .int .i64 0, .string ⟨#[]⟩, .slice none 0 0, .slice none 0 0] 42)).cell? ((⟨w8.heap.size, 0, none⟩ : Addr).add j) = some v := seven_new _ _ _ _ _ _ _ _ _
      have hZ : w8.heap.size < (w8.alloc (.cells #[.int .i64 0, .string ⟨#[]⟩, .string ⟨#[]⟩, .int .i64 0, .string ⟨#[]⟩, .slice none 0 0, .slice none 0 0] 42)).heap.size := by simp
      have HC9 : Hid (Cells7 (fun k => G < k) (w8.alloc (.cells #[.int .i64 0, .string ⟨#[]⟩, .string ⟨#[]⟩, .int .i64 0, .string ⟨#[]⟩, .slice none 0 0, .slice none 0 0] 42)) [.int .i64 t.kind, .string ⟨t.frm.toArray⟩, .string ⟨t.rcv.toArray⟩, .int .i64 t.sort, .string ⟨t.name.toArray⟩, .slice A1 t.labels.length c1, .slice A2 t.kids.length c2] [t]) := Lib.hid (.cons t _ _ [] [] (M1.out.keep (Same.below hb9) (fun _ h _ => h)) (M2.out.keep (Same.below hb9) (fun _ h _ => h)) .nil)
      have XB9 := XB8.keep hb9 XB8.lt
      have GB9 := GB8.keep hb9 GB8.lt
      have hR9 := hR8.keep hb9
      have hg9 := grown_belowB hg8 hb9
      have hGZ : G < w8.heap.size := GB8.lt
      generalize w8.alloc (.cells #[.int .i64 0, .string ⟨#[]⟩, .string ⟨#[]⟩, .int .i64 0, .string ⟨#[]⟩, .slice none 0 0, .slice none 0 0] 42) = w9 at hs9 hZ HC9 XB9 GB9 hR9 hg9 ⊢
      clear hb9 XB8 GB8 hR8 hg8 M1 M2 hzz hGz
      generalize w8.heap.size = Z at hs9 hZ hGZ ⊢
      refine hK.out _ _ (fun _ => GB9.c6) ?_
      clear hK K
      try simp only [List.getElem_toArray, List.getElem_cons_succ, List.getElem_cons_zero, Act.put, List.setIfInBounds_toArray, List.set_cons_zero, List.set_cons_succ]
      rotate_left
      go_simp
      have hb8 : Below w7.heap.size w7 (w7.alloc (.cells #[.int .i64 0, .string ⟨#[]⟩, .string ⟨#[]⟩, .int .i64 0, .string ⟨#[]⟩, .slice none 0 0, .slice none 0 0] 42)) := (Below.refl _ _).alloc (Nat.le_refl _) _
      have hs8 : ∀ j v, ([.int .i64 0, .string ⟨#[]⟩, .string ⟨#[]⟩, .int .i64 0, .string ⟨#[]⟩, .slice none 0 0, .slice none 0 0] : List Value)[j]? = some v → (w7.alloc (.cells #[.int .i64 0, .string ⟨#[]⟩, .string ⟨#[]⟩, .int .i64 0, .string ⟨#[]⟩, .slice none 0 0, .slice none 0 0] 42)).cell? ((⟨w7.heap.size, 0, none⟩ : Addr).add j) = some v := seven_new _ _ _ _ _ _ _ _ _
      have hZ8 : w7.heap.size < (w7.alloc (.cells #[.int .i64 0, .string ⟨#[]⟩, .string ⟨#[]⟩, .int .i64 0, .string ⟨#[]⟩, .slice none 0 0, .slice none 0 0] 42)).heap.size := by simp
      have XB8 := XB7.keep hb8 XB7.lt
      have GB8 := GB7.keep hb8 GB7.lt
      have hR8 := hR7.keep hb8
      have hg8 := grown_belowB hg7 hb8
      have hGZ : G < w7.heap.size := GB7.lt
      have hbZ : b < w7.heap.size := hR7.lt
      generalize w7.alloc (.cells #[.int .i64 0, .string ⟨#[]⟩, .string ⟨#[]⟩, .int .i64 0, .string ⟨#[]⟩, .slice none 0 0, .slice none 0 0] 42) = w8 at hs8 hZ8 XB8 GB8 hR8 hg8 ⊢
      clear hb8 XB7 GB7 hR7 hg7 HSd hS7 hG7
      generalize w7.heap.size = Z at hs8 hZ8 hGZ hbZ ⊢
      refine hK.out _ _ (fun _ => GB8.c6) ?_
      clear hK K
      try simp only [List.getElem_toArray, List.getElem_cons_succ, List.getElem_cons_zero, Act.put, List.setIfInBounds_toArray, List.set_cons_zero, List.set_cons_succ]
      refine wpT_one (i := 3) rfl (by kernel_rfl) fun K hK => ?_
      go_simp
      refine (ih (q6 + 1) w8 (by omega) (by omega) (hSk w w8 hS hg8) hR8).mono ?_
      rintro e w9 ⟨hg, hans⟩
      have hg9 := grown_trans hg8 hg
      have XB9 := XB8.grown' hg (by omega)
      have GB9 := GB8.grown' hg hGb
      have hzz : w8.heap.size ≤ w9.heap.size := hg.size
      have hGz := GB8.lt
      rcases rd_cases (gdOne l n (q6 + 1)) with ⟨q', hr⟩ | ⟨t, p3, hr⟩
      · rw [hr] at hans
        simp only at hans
        subst hans
        refine ⟨rfl, ?_⟩
        rw [← HR6.out, hr]
        exact ⟨hg9, rfl⟩
      rw [hr] at hans
      obtain ⟨v, rfl, hT, hR9⟩ := hans
      have HR2 : Hid (Rd.ok (.mk 2 W V X [] [] [t]) p3 = RES) := Lib.hid (by rw [← HR6.out, hr]; rfl)
      clear hr
      obtain ⟨lv, kv, rfl, m1, m2⟩ := hT
      have M1 := Lib.hid (m1.keep (D' := fun k => G < k) (fun _ _ _ => rfl) (fun k hk _ => by omega))
      have M2 := Lib.hid (m2.keep (D' := fun k => G < k) (fun _ _ _ => rfl) (fun k hk _ => by omega))
      obtain ⟨A1, c1, rfl, -, -⟩ := m1
      obtain ⟨A2, c2, rfl, -, -⟩ := m2
      clear HR6
      have hZ : Z < w9.heap.size := Nat.lt_of_lt_of_le hZ8 hg.size
      have hs9 : ∀ j v, ([.int .i64 0, .string ⟨#[]⟩, .string ⟨#[]⟩, .int .i64 0, .string ⟨#[]⟩, .slice none 0 0, .slice none 0 0] : List Value)[j]? = some v → w9.cell? ((⟨Z, 0, none⟩ : Addr).add j) = some v := fun j v hj => by
        have h := hs8 j v hj
        rw [Go.WideShapes.add_plain] at h ⊢
        exact (World.cell?_of_block (a := ⟨Z, 0 + j, none⟩) (hg.block Z hZ8 (fun e => by have := Option.some.inj e; omega))).trans h
      have HC9 : Hid (Cells7 (fun k => G < k) w9 [.int .i64 t.kind, .string ⟨t.frm.toArray⟩, .string ⟨t.rcv.toArray⟩, .int .i64 t.sort, .string ⟨t.name.toArray⟩, .slice A1 t.labels.length c1, .slice A2 t.kids.length c2] [t]) := Lib.hid (.cons t _ _ [] [] M1.out M2.out .nil)
      clear hs8 hZ8 M1 M2 hg hR8 hg8 XB8 GB8 hzz hGz
      refine hK.out _ _ (fun _ => GB9.c6) ?_
      clear hK K
      try simp only [List.getElem_toArray, List.getElem_cons_succ, List.getElem_cons_zero, Act.put, List.setIfInBounds_toArray, List.set_cons_zero, List.set_cons_succ]
      rotate_left
      all_goals
        refine wpT_one (i := 6) rfl (by kernel_rfl) fun K hK => ?_
        refine step_app rt_gls rfl (.tmp 76) (.tmp 80) rfl w9.heap.size (.slice none 0 0) 0 [] rfl (World.ownsRow_nil _ _ _ _) ⟨Z, 0, none⟩ 1 1 [.int .i64 0, .string ⟨#[]⟩, .string ⟨#[]⟩, .int .i64 0, .string ⟨#[]⟩, .slice none 0 0, .slice none 0 0] rfl rfl hs9 (by simp [Value.oneCell']) (by decide) (by decide) (Nat.le_refl _) (fun v' w10 k1 k2 k3 k4 => ?_)
        have hb10 : Below w9.heap.size w9 w10 := k4
        have XB10 := XB9.keep hb10 XB9.lt
        have GB10 := GB9.keep hb10 GB9.lt
        have hR10 := hR9.keep hb10
        have hg10 := grown_belowB hg9 hb10
        obtain ⟨g, cx, rfl, hgb, hgs⟩ := k1.form (by omega)
        have HC10 := Lib.hid (HC9.out.keep (D' := fun k => G < k ∧ k ≠ g) (Same.below hb10) (fun k hk hl => ⟨hk, by omega⟩))
        have HK1 := Lib.hid k1
        have hwz : w.heap.size < w9.heap.size := XB9.lt
        have hGz9 : G < w9.heap.size := GB9.lt
        have hbz9 : b < w9.heap.size := hR9.lt
        clear k1 k2 k3 k4 hb10 hs9 HC9 XB9 GB9 hR9 hg9
        refine hK.out _ _ (fun _ => GB10.c6) ?_
        clear hK K
        try simp only [List.getElem_toArray, List.getElem_cons_succ, List.getElem_cons_zero, Act.put, List.setIfInBounds_toArray, List.set_cons_zero, List.set_cons_succ]
        have hgG : ¬ g = G := by omega
        have hGg : ¬ G = g := by omega
        have hgX : ¬ g = w.heap.size := by omega
        have hgb' : ¬ g = b := by omega
        clear hgs
        refine wpT_tail (S' := fun _ => True) (n' := 11) _ _ _ _ (by decide) ?_
        refine wpT_take (i := 7) (v := ?_) rfl (by kernel_rfl) (by kernel_rfl) (by kernel_rfl) (by kernel_rfl) (fun _ _ _ h => h) (Or.inl ⟨by rfl, ?_⟩) trivial ?_
        rotate_left
        · (intro wq hSw; go_simp; all_goals (first | (with_reducible rfl)))
        simp only [List.getElem_toArray, List.getElem_cons_succ, List.getElem_cons_zero, Act.put, List.setIfInBounds_toArray, List.set_cons_zero, List.set_cons_succ]
        refine wpT_take (i := 9) (v := ?_) rfl (by kernel_rfl) (by kernel_rfl) (by kernel_rfl) (by kernel_rfl) (fun _ _ _ h => h) (Or.inl ⟨by rfl, ?_⟩) trivial ?_
        rotate_left
        · (intro wq hSw; go_simp; all_goals (first | (with_reducible rfl)))
        simp only [List.getElem_toArray, List.getElem_cons_succ, List.getElem_cons_zero, Act.put, List.setIfInBounds_toArray, List.set_cons_zero, List.set_cons_succ]
        have HTL := Lib.hid (put_tail (t := t) GB10 XB10 hR10 hg10 HK1.out HC10.out rfl hwz hXG hGz9 hbw hgb (.slice (some ⟨g, 0, none⟩) 1 cx) rfl)
        have hyc : ∀ i v, i < 7 → ([.int .i64 0, .string ⟨#[]⟩, .string ⟨#[]⟩, .int .i64 0, .string ⟨#[]⟩, .slice none 0 0, .slice none 0 0] : List Value)[i]? = some v → w10.cell? ⟨g, i, none⟩ = some v := fun i v hi hv => by
          rw [HK1.out.cellAt i (by omega)]
          simpa using hv
        have y0 := hyc 0 _ (by decide) rfl
        have y1 := hyc 1 _ (by decide) rfl
        have y2 := hyc 2 _ (by decide) rfl
        have y3 := hyc 3 _ (by decide) rfl
        have y4 := hyc 4 _ (by decide) rfl
        have y5 := hyc 5 _ (by decide) rfl
        have y6 := hyc 6 _ (by decide) rfl
        have y7 := fun j => HK1.out.frozenAt j
        obtain ⟨z0, z1, z2, z3, z4, z5, z6, z7, z8⟩ := id GB10
        clear hyc HK1 HC10 XB10 hR10 hg10
        refine wpT_two (i := 8) (j := 10) rfl rfl (by kernel_rfl) (fun K hK => ?_) (fun K hK => ?_)
        · go_simp
          refine hK.out _ _ (fun _ => trivial) ?_
          clear hK K
          try simp only [List.getElem_toArray, List.getElem_cons_succ, List.getElem_cons_zero, Act.put, List.setIfInBounds_toArray, List.set_cons_zero, List.set_cons_succ]
          refine wpT_one (i := 10) rfl (by kernel_rfl) fun K hK => ?_
          go_simp
          refine hK.out _ _ (fun _ => trivial) ?_
          clear hK K
          try simp only [List.getElem_toArray, List.getElem_cons_succ, List.getElem_cons_zero, Act.put, List.setIfInBounds_toArray, List.set_cons_zero, List.set_cons_succ]
          refine wpT_done (by kernel_rfl) ?_
          have HT := HTL.out.1
          clear HTL y0 y1 y2 y3 y4 y5 y6 y7 z0 z1 z2 z3 z4 z5 z6 z7 z8 GB10
          generalize ((((((((w10.setCell ⟨g, 0, none⟩ (.int .i64 t.kind)).setCell ⟨g, 1, none⟩ (.string ⟨t.frm.toArray⟩)).setCell ⟨g, 2, none⟩ (.string ⟨t.rcv.toArray⟩)).setCell ⟨g, 3, none⟩ (.int .i64 t.sort)).setCell ⟨g, 4, none⟩ (.string ⟨t.name.toArray⟩)).setCell ⟨g, 5, none⟩ (.slice A1 t.labels.length c1)).setCell ⟨g, 6, none⟩ (.slice A2 t.kids.length c2)).setCell ⟨G, 6, none⟩ (.slice (some ⟨g, 0, none⟩) 1 cx)) = w12 at HT ⊢
          obtain ⟨GB12, XB12, hR12, hg12, HK12⟩ := HT
          obtain ⟨z0, z1, z2, z3, z4, z5, z6, z7, z8⟩ := id GB12
          obtain ⟨x0, x1, x2, x3, x4, x5, x6, x7, x8⟩ := id XB12
          have HK13 := Lib.hid HK12
          clear HK12
          simp only [Gl.kind, Gl.frm, Gl.rcv, Gl.sort, Gl.name] at z0 z1 z2 z3 z4
          go_wp2_with fail
          obtain ⟨hF, hgF, hRF, hT⟩ := gfinish hbw (Nat.le_refl _) hg12 hR12 XB12 2 W V X [] [] [t] (.slice none 0 0) (.slice (some ⟨g, 0, none⟩) 1 cx) (no_strs' _ _) HK13.out
          generalize (((((((w12.setCell ⟨w.heap.size, 0, none⟩ (.int .i64 2)).setCell ⟨w.heap.size, 1, none⟩ (.string ⟨W.toArray⟩)).setCell ⟨w.heap.size, 2, none⟩ (.string ⟨V.toArray⟩)).setCell ⟨w.heap.size, 3, none⟩ (.int .i64 X)).setCell ⟨w.heap.size, 4, none⟩ (.string ⟨#[]⟩)).setCell ⟨w.heap.size, 5, none⟩ (.slice none 0 0)).setCell ⟨w.heap.size, 6, none⟩ (.slice (some ⟨g, 0, none⟩) 1 cx)) = wF at hF hgF hRF hT ⊢
          obtain ⟨d0, d1, d2, d3, d4, d5, d6, d7, d8⟩ := hF
          refine bodyPost_ret (v := .agg #[.int .i64 2, .string ⟨W.toArray⟩, .string ⟨V.toArray⟩, .int .i64 X, .string ⟨#[]⟩, .slice none 0 0, .slice (some ⟨g, 0, none⟩) 1 cx]) (by simp [results, Tryd.results95, go_sem, d0, d1, d2, d3, d4, d5, d6, Gl.kind, Gl.frm, Gl.rcv, Gl.sort, Gl.name]) rfl ?_
          refine ⟨hgF, ?_⟩
          rw [← HR2.out]
          exact ⟨_, rfl, hT, hRF⟩
        · go_simp
          refine hK.out _ _ (fun _ => trivial) ?_
          clear hK K
          try simp only [List.getElem_toArray, List.getElem_cons_succ, List.getElem_cons_zero, Act.put, List.setIfInBounds_toArray, List.set_cons_zero, List.set_cons_succ]
          refine wpT_one (i := 8) rfl (by kernel_rfl) fun K hK => ?_
          go_simp
          refine hK.out _ _ (fun _ => trivial) ?_
          clear hK K
          try simp only [List.getElem_toArray, List.getElem_cons_succ, List.getElem_cons_zero, Act.put, List.setIfInBounds_toArray, List.set_cons_zero, List.set_cons_succ]
          refine wpT_done (by kernel_rfl) ?_
          have HT := HTL.out.2
          clear HTL y0 y1 y2 y3 y4 y5 y6 y7 z0 z1 z2 z3 z4 z5 z6 z7 z8 GB10
          generalize ((((((((w10.setCell ⟨G, 6, none⟩ (.slice (some ⟨g, 0, none⟩) 1 cx)).setCell ⟨g, 0, none⟩ (.int .i64 t.kind)).setCell ⟨g, 1, none⟩ (.string ⟨t.frm.toArray⟩)).setCell ⟨g, 2, none⟩ (.string ⟨t.rcv.toArray⟩)).setCell ⟨g, 3, none⟩ (.int .i64 t.sort)).setCell ⟨g, 4, none⟩ (.string ⟨t.name.toArray⟩)).setCell ⟨g, 5, none⟩ (.slice A1 t.labels.length c1)).setCell ⟨g, 6, none⟩ (.slice A2 t.kids.length c2)) = w12 at HT ⊢
          obtain ⟨GB12, XB12, hR12, hg12, HK12⟩ := HT
          obtain ⟨z0, z1, z2, z3, z4, z5, z6, z7, z8⟩ := id GB12
          obtain ⟨x0, x1, x2, x3, x4, x5, x6, x7, x8⟩ := id XB12
          have HK13 := Lib.hid HK12
          clear HK12
          simp only [Gl.kind, Gl.frm, Gl.rcv, Gl.sort, Gl.name] at z0 z1 z2 z3 z4
          go_wp2_with fail
          obtain ⟨hF, hgF, hRF, hT⟩ := gfinish hbw (Nat.le_refl _) hg12 hR12 XB12 2 W V X [] [] [t] (.slice none 0 0) (.slice (some ⟨g, 0, none⟩) 1 cx) (no_strs' _ _) HK13.out
          generalize (((((((w12.setCell ⟨w.heap.size, 0, none⟩ (.int .i64 2)).setCell ⟨w.heap.size, 1, none⟩ (.string ⟨W.toArray⟩)).setCell ⟨w.heap.size, 2, none⟩ (.string ⟨V.toArray⟩)).setCell ⟨w.heap.size, 3, none⟩ (.int .i64 X)).setCell ⟨w.heap.size, 4, none⟩ (.string ⟨#[]⟩)).setCell ⟨w.heap.size, 5, none⟩ (.slice none 0 0)).setCell ⟨w.heap.size, 6, none⟩ (.slice (some ⟨g, 0, none⟩) 1 cx)) = wF at hF hgF hRF hT ⊢
          obtain ⟨d0, d1, d2, d3, d4, d5, d6, d7, d8⟩ := hF
          refine bodyPost_ret (v := .agg #[.int .i64 2, .string ⟨W.toArray⟩, .string ⟨V.toArray⟩, .int .i64 X, .string ⟨#[]⟩, .slice none 0 0, .slice (some ⟨g, 0, none⟩) 1 cx]) (by simp [results, Tryd.results95, go_sem, d0, d1, d2, d3, d4, d5, d6, Gl.kind, Gl.frm, Gl.rcv, Gl.sort, Gl.name]) rfl ?_
          refine ⟨hgF, ?_⟩
          rw [← HR2.out]
          exact ⟨_, rfl, hT, hRF⟩
end
end Go.Proofs.YtcacembpegoghaaDoor
