/-
  The program's reader of conversations: the parts of a choice.
-/
import Derived.Test.YtcacembpegoghaaDoorGlR
import Derived.Test.YtcacembpegoghaaDoorHeld
namespace Go.Proofs.YtcacembpegoghaaDoor
open Go.RowKit Go.Proofs

set_option maxRecDepth 100000
theorem rd_cases {α : Type} (r : Rd α) : (∃ q, r = .bad q) ∨ ∃ u q, r = .ok u q := by cases r with
  | ok u q => exact Or.inr ⟨u, q, rfl⟩
  | bad q => exact Or.inl ⟨q, rfl⟩
theorem OBox.keepB {w w' : World} {b B : Nat} {v : Value} (h : OBox w b v) (hb : Below B w w') (hB : b < B) : OBox w' b v := ⟨(hb.cell (p := ⟨b, 0, none⟩) hB).trans h.c, fun j => (hb.frozen (p := ⟨b, j, none⟩) hB).trans (h.fr j)⟩
/-- What the reading of a choice's parts answers: they lie in the box that was handed in. -/
def GPut (w : World) (b G : Nat) (l : Str) (t : Gl) (r : Rd (List Str × List Gl)) (e : Ending) (w' : World) : Prop := Two w w' b G ∧ match r with
  | .ok x q => ∃ lv kv, e = .returned (.tuple #[]) ∧ RBox w' b l q ∧ GBox w' G t lv kv ∧ StrsD (fun k => w.heap.size ≤ k) w' lv x.1 ∧ Gls (fun k => w.heap.size ≤ k) w' kv x.2
  | .bad q => e = .panicked (gthrown q)
theorem grown_both {w w1 : World} {row : Option Nat} (hg : w.grownBy w1 row) {a : Addr} (ha : some a.block ≠ row) (hl : a.block < w.heap.size) (x : Value) : (w.setCell a x).grownBy (w1.setCell a x) row := by
  refine ⟨hg.os, hg.tape, hg.output, by rw [World.size_setCell, World.size_setCell]; exact hg.size, fun k hk hne => ?_⟩
  rw [World.size_setCell] at hk
  by_cases hka : k = a.block
  · subst hka
    have h := hg.block a.block hl ha
    unfold World.setCell
    simp only [Array.getElem?_modify, if_true, h]
  · rw [Below.heap_setCell _ _ _ _ hka, Below.heap_setCell _ _ _ _ hka]
    exact hg.block k hk hne
/-- One kid more, laid by a place held open. -/
theorem GRows.put {w w1 : World} {base G g cap : Nat} {lv kv : Value} {ls : List Str} {ks : List Gl} {xs : List Value} {u : Gl} {z0 z1 z2 z3 z4 z5 z6 a0 a1 a2 a3 a4 a5 a6 : Value} (h : GRows w base lv kv ls ks xs) (hG : G < base) (hGw : G < w.heap.size) (x : Value)
    (hown : w1.ownsRow base 42 7 (.slice (some ⟨g, 0, none⟩) (ks.length + 1) cap) (ks.length + 1) (xs ++ [z0, z1, z2, z3, z4, z5, z6])) (hg : w.grownBy w1 kv.ownBlock) (hv : (Value.slice (some ⟨g, 0, none⟩) (ks.length + 1) cap).ownBlock = kv.ownBlock ∨ (Value.slice (some ⟨g, 0, none⟩) (ks.length + 1) cap).ownBlock = some w.heap.size)
    (hc : Cells7 (fun k => base ≤ k ∧ lv.ownBlock ≠ some k ∧ kv.ownBlock ≠ some k) w [a0, a1, a2, a3, a4, a5, a6] [u]) :
    GRows ((((((((w1.setCell ⟨G, 6, none⟩ x).setCell ⟨g, ks.length * 7, none⟩ a0).setCell ⟨g, ks.length * 7 + 1, none⟩ a1).setCell ⟨g, ks.length * 7 + 2, none⟩ a2).setCell ⟨g, ks.length * 7 + 3, none⟩ a3).setCell ⟨g, ks.length * 7 + 4, none⟩ a4).setCell ⟨g, ks.length * 7 + 5, none⟩ a5).setCell ⟨g, ks.length * 7 + 6, none⟩ a6) base lv (.slice (some ⟨g, 0, none⟩) (ks.length + 1) cap) ls (ks ++ [u]) (xs ++ [a0, a1, a2, a3, a4, a5, a6]) := by
  have hkG : some G ≠ kv.ownBlock := fun e => by have := (h.kids.lt G e.symm).1; omega
  have hg0 := (hown.lt g rfl).1
  have hown1 := own_set (p := ⟨G, 6, none⟩) hown (show G < base from hG) x
  have hg1 := grown_both hg (a := ⟨G, 6, none⟩) hkG hGw x
  have hr1 := h.set (a := ⟨G, 6, none⟩) hG x
  have hc1 := hc.keep (D' := fun k => base ≤ k ∧ lv.ownBlock ≠ some k ∧ kv.ownBlock ≠ some k) (w' := w.setCell ⟨G, 6, none⟩ x) (Same.set (fun hk => by have := hk.1; simp only at this; omega)) (fun _ hk _ => hk)
  have hown2 := own_put7 hown1 h.kids.1 a0 a1 a2 a3 a4 a5 a6
  have hz : (w.setCell ⟨G, 6, none⟩ x).heap.size = w.heap.size := World.size_setCell _ _ _
  refine hr1.kid hc1 hown2 ?_ (by rw [hz]; exact hv)
  have hput : ∀ {w' : World} (i : Nat) (a : Value), (w.setCell ⟨G, 6, none⟩ x).grownBy w' kv.ownBlock → (w.setCell ⟨G, 6, none⟩ x).grownBy (w'.setCell ⟨g, i, none⟩ a) kv.ownBlock := by
    intro w' i a hw
    refine ⟨hw.os, hw.tape, hw.output, by have h1 := hw.size; simpa only [World.size_setCell] using h1, fun k hk hne => ?_⟩
    rw [← hw.block k hk hne]
    refine Below.heap_setCell w' _ a k (fun e => ?_)
    have e' : k = g := e
    rcases hv with e | e
    · exact hne (by rw [e']; exact e)
    · have e2 : g = w.heap.size := Option.some.inj e
      rw [hz] at hk
      omega
  exact hput _ _ (hput _ _ (hput _ _ (hput _ _ (hput _ _ (hput _ _ (hput _ _ hg1))))))
section
variable (l : Str) (b p G : Nat) (w0 w : World) (t : Gl) (hl : l.length ≤ 2000) (hp : p ≤ l.length) (hR : RBox w b l p) (GB : GBox w G t (.slice none 0 0) (.slice none 0 0)) (hg0 : w0.grownBy w (some b)) (hb0 : b < w0.heap.size) (hG0 : w0.heap.size ≤ G)
  (S : World → Prop) (hSk : ∀ w w' : World, S w → w.grownBy w' (some b) → S w') (hS : S w0) (n : Nat)
  (ih : ∀ (p : Nat) (w : World), p ≤ l.length → l.length < n + p → S w → RBox w b l p → Calls Tryd.prog 95 #[.pointer (some ⟨b, 0, none⟩)] w (GAns w b l (gdOne l n p))) (hn : l.length < n + p)
include hl hp hR GB hg0 hb0 hG0 hSk hS ih hn
set_option maxHeartbeats 16000000 in
theorem gchoice_any : Calls Tryd.prog 175 #[.pointer (some ⟨b, 0, none⟩), .pointer (some ⟨G, 0, none⟩)] w (GPut w b G l t (gdChoice l (gdOne l n) 7 p [] [])) := by
  obtain ⟨RES, hRES⟩ : ∃ r, gdChoice l (gdOne l n) 7 p [] [] = r := ⟨_, rfl⟩
  rw [hRES]
  have HRES := Lib.hid hRES; clear hRES
  have hbw := hR.lt
  have hGw := GB.lt
  have hGb : ¬ b = G := by omega
  have hbG : ¬ G = b := by omega
  have hPG : ¬ G = w.heap.size := by omega
  have hPb : ¬ b = w.heap.size := by omega
  have hmf : ∀ (fn : Fn) (first cap : Array Value) (w : World), (Instr.makeFunc fn first cap).run Tryd.prog w = .ok (.func fn first cap) w := fun _ _ _ _ => rfl
  go_enter Tryd.func175, Tryd.ntmps175
  go_wp2_with fail
  have hb1 : Below w.heap.size w (w.alloc (.cells #[.pointer (some ⟨G, 0, none⟩)] 234)) := (Below.refl _ _).alloc (Nat.le_refl _) _
  have PB1 := OBox.new w (.pointer (some ⟨G, 0, none⟩)) 234
  have R1 := hR.keep hb1
  have T1 := (Two.refl w b G).below hb1
  have GB1 := GB.keep hb1 GB.lt
  generalize w.alloc (.cells #[.pointer (some ⟨G, 0, none⟩)] 234) = w1 at PB1 R1 T1 GB1 ⊢
  clear hb1 hR GB
  go_loopg [] 7 (fun gk wr => ∃ (p' : Nat) (ls : List Str) (ks : List Gl) (lv kv : Value) (xs : List Value), p' ≤ l.length ∧ l.length < n + p' ∧ ls.length + gk = 7 ∧ ls.length ≤ 6 ∧ ks.length = ls.length ∧ Hid (gdChoice l (gdOne l n) gk p' ls ks = RES) ∧
    RBox wr b l p' ∧ Two w wr b G ∧ OBox wr w.heap.size (.pointer (some ⟨G, 0, none⟩)) ∧ GBox wr G t lv kv ∧ GRows wr (w.heap.size + 1) lv kv ls ks xs)
  case atStart => exact ⟨p, [], [], _, _, [], hp, hn, rfl, by simp, rfl, HRES, R1, T1, PB1, GB1, GRows.new _ _⟩
  case round =>
    clear HRES R1 T1 PB1 GB1 hp hn
    obtain ⟨p', ls, ks, lv, kv, xs, hp, hn, hgk, h6, hlen, HR, R1, T1, PB1, GB1, rows1⟩ := hrel
    obtain ⟨g', rfl⟩ : ∃ g', gk = g' + 1 := ⟨gk - 1, by omega⟩
    have hk6 : ks.length ≤ 6 := by omega
    have HLEN := Lib.hid hlen; clear hlen
    obtain ⟨Al, cl, rfl⟩ := own_form rows1.labels
    obtain ⟨Ak, ck, rfl⟩ := own_form rows1.kids
    have hcalV := fun w' (R : RBox w' b l p') hr (hv : labelOk ls (wd l (sk l p')) = true) => gword_ok (labelOk ls) 243 #[.pointer (some ⟨w.heap.size, 0, none⟩)] (fun _ _ => by kernel_rfl) l b p' w' hl hp R hr hv
    have hcalB := fun w' (R : RBox w' b l p') hr (hv : labelOk ls (wd l (sk l p')) = false) => gword_bad (labelOk ls) 243 #[.pointer (some ⟨w.heap.size, 0, none⟩)] (fun _ _ => by kernel_rfl) l b p' w' hl hp R hr hv
    have HR1 : Hid ((if labelOk ls (wd l (sk l p')) = false then .bad (sk l p')
      else (rdSign l 58 (sk l p' + (wd l (sk l p')).length)).seq fun _ p2 => (gdOne l n p2).seq fun t p3 =>
        if l[sk l p3]? = some 44 then gdChoice l (gdOne l n) g' (sk l p3 + 1) (ls ++ [wd l (sk l p')]) (ks ++ [t])
        else (rdSign l 125 (sk l p3)).seq fun _ p4 => .ok (ls ++ [wd l (sk l p')], ks ++ [t]) p4 : Rd (List Str × List Gl)) = RES) := Lib.hid (by rw [← HR.out]; rfl)
    clear HR
    have hsq := sk_le hp
    have hwq := wd_le hsq.2
    generalize sk l p' = q1 at hsq hwq hcalV hcalB HR1
    generalize wd l q1 = W at hwq hcalV hcalB HR1
    go_wp2_with fail
    refine wp_region_T 10 (fun w' : World => w'.cell? ⟨w.heap.size, 0, none⟩ = some (.pointer (some ⟨G, 0, none⟩)) ∧ w'.cell? ⟨G, 5, none⟩ = some (.slice Al ls.length cl)) (by kernel_rfl) ?_
    have hbd : Below wr.heap.size wr wr.drew := (Below.refl _ _).drew
    have R2 := R1.keep hbd
    have T2 := T1.below hbd
    have PB2 := PB1.keep hbd
    have GB2 := GB1.keep hbd GB1.lt
    have rows2 := rows1.below hbd
    generalize wr.drew = w2 at R2 T2 PB2 GB2 rows2 ⊢
    clear R1 T1 PB1 GB1 rows1 hbd
    clear wr
    have hlt : w.heap.size < w2.heap.size := PB2.lt
    have HSd : Hid ((fun w' : World => w'.cell? ⟨w.heap.size, 0, none⟩ = some (.pointer (some ⟨G, 0, none⟩)) ∧ w'.cell? ⟨G, 5, none⟩ = some (.slice Al ls.length cl)) w2) := Lib.hid ⟨PB2.c, GB2.c5⟩
    have hr2 : ∀ (x : Str) (w' : World), x.length ≤ 2000 → w2.grownBy w' (some b) → Calls Tryd.prog 243 (#[.string ⟨x.toArray⟩] ++ #[.pointer (some ⟨w.heap.size, 0, none⟩)]) w' fun e w'' => e = .returned (.bool (labelOk ls x)) ∧ Below w'.heap.size w' w'' := fun x w' hx hg => gc1_any x ls _ w.heap.size G w' hx (((rows2.at hg (by omega)).strs (D := fun _ => True) (fun _ _ => trivial)).is) (by omega) (PB2.grown' hg (by omega)).c (GB2.grown' hg hbG).c5
    have HR2 := Lib.hid hr2; clear hr2
    refine wpT_take (i := 0) (v := ?_) rfl (by kernel_rfl) (by kernel_rfl) (by kernel_rfl) (by kernel_rfl) (fun _ _ _ h => h) (Or.inl ⟨by rfl, ?_⟩) HSd.out ?_
    rotate_left
    · (intro wq hSw; obtain ⟨z1, z2⟩ := hSw; go_simp; all_goals (first | (with_reducible rfl) | (rw [if_neg (by first | omega | (simp; omega) | (simp only [List.length_append, List.length_cons, List.length_nil]; omega))])))
    simp only [List.getElem_toArray, List.getElem_cons_succ, List.getElem_cons_zero, Act.put, List.setIfInBounds_toArray, List.set_cons_zero, List.set_cons_succ]
    refine wpT_take (i := 1) (v := ?_) rfl (by kernel_rfl) (by kernel_rfl) (by kernel_rfl) (by kernel_rfl) (fun _ _ _ h => h) (Or.inl ⟨by rfl, ?_⟩) HSd.out ?_
    rotate_left
    · (intro wq hSw; obtain ⟨z1, z2⟩ := hSw; go_simp; all_goals (first | (with_reducible rfl) | (rw [if_neg (by first | omega | (simp; omega) | (simp only [List.length_append, List.length_cons, List.length_nil]; omega))])))
    simp only [List.getElem_toArray, List.getElem_cons_succ, List.getElem_cons_zero, Act.put, List.setIfInBounds_toArray, List.set_cons_zero, List.set_cons_succ]
    refine wpT_take (i := 2) (v := ?_) rfl (by kernel_rfl) (by kernel_rfl) (by kernel_rfl) (by kernel_rfl) (fun _ _ _ h => h) (Or.inl ⟨by rfl, ?_⟩) HSd.out ?_
    rotate_left
    · (intro wq hSw; obtain ⟨z1, z2⟩ := hSw; go_simp; all_goals (first | (with_reducible rfl) | (rw [if_neg (by first | omega | (simp; omega) | (simp only [List.length_append, List.length_cons, List.length_nil]; omega))])))
    simp only [List.getElem_toArray, List.getElem_cons_succ, List.getElem_cons_zero, Act.put, List.setIfInBounds_toArray, List.set_cons_zero, List.set_cons_succ]
    refine wpT_take (i := 3) (v := ?_) rfl (by kernel_rfl) (by kernel_rfl) (by kernel_rfl) (by kernel_rfl) (fun _ _ _ h => h) (Or.inl ⟨by rfl, ?_⟩) HSd.out ?_
    rotate_left
    · (intro wq hSw; obtain ⟨z1, z2⟩ := hSw; go_simp; all_goals (first | (with_reducible rfl) | (rw [if_neg (by first | omega | (simp; omega) | (simp only [List.length_append, List.length_cons, List.length_nil]; omega))])))
    simp only [List.getElem_toArray, List.getElem_cons_succ, List.getElem_cons_zero, Act.put, List.setIfInBounds_toArray, List.set_cons_zero, List.set_cons_succ]
    refine wpT_take (i := 4) (v := ?_) rfl (by kernel_rfl) (by kernel_rfl) (by kernel_rfl) (by kernel_rfl) (fun _ _ _ h => h) (Or.inl ⟨by rfl, ?_⟩) HSd.out ?_
    rotate_left
    · (intro wq hSw; obtain ⟨z1, z2⟩ := hSw; go_simp; all_goals (first | (with_reducible rfl) | (rw [if_neg (by first | omega | (simp; omega) | (simp only [List.length_append, List.length_cons, List.length_nil]; omega))])))
    simp only [List.getElem_toArray, List.getElem_cons_succ, List.getElem_cons_zero, Act.put, List.setIfInBounds_toArray, List.set_cons_zero, List.set_cons_succ]
    refine wpT_take (i := 5) (v := ?_) rfl (by kernel_rfl) (by kernel_rfl) (by kernel_rfl) (by kernel_rfl) (fun _ _ _ h => h) (Or.inl ⟨by rfl, ?_⟩) HSd.out ?_
    rotate_left
    · (intro wq hSw; obtain ⟨z1, z2⟩ := hSw; go_simp; all_goals (first | (with_reducible rfl) | (rw [if_neg (by first | omega | (simp; omega) | (simp only [List.length_append, List.length_cons, List.length_nil]; omega))])))
    simp only [List.getElem_toArray, List.getElem_cons_succ, List.getElem_cons_zero, Act.put, List.setIfInBounds_toArray, List.set_cons_zero, List.set_cons_succ]
    refine wpT_take (i := 6) (v := ?_) rfl (by kernel_rfl) (by kernel_rfl) (by kernel_rfl) (by kernel_rfl) (fun _ _ _ h => h) (Or.inl ⟨by rfl, ?_⟩) HSd.out ?_
    rotate_left
    · (intro wq hSw; obtain ⟨z1, z2⟩ := hSw; go_simp; all_goals (first | (with_reducible rfl) | (rw [if_neg (by first | omega | (simp; omega) | (simp only [List.length_append, List.length_cons, List.length_nil]; omega))])))
    simp only [List.getElem_toArray, List.getElem_cons_succ, List.getElem_cons_zero, Act.put, List.setIfInBounds_toArray, List.set_cons_zero, List.set_cons_succ]
    refine wpT_one (i := 7) rfl (by kernel_rfl) fun K hK => ?_
    go_simp
    cases hv : labelOk ls W with
    | false =>
      refine (hcalB w2 R2 HR2.out hv).mono ?_
      rintro e w3 ⟨rfl, hg⟩
      have e1 : Rd.bad q1 = RES := by rw [← HR1.out, if_pos hv]
      exact ⟨rfl, T2.step hg, by rw [← e1]⟩
    | true =>
    have hl6 : ls.length < 6 := by simp [labelOk] at hv; omega
    refine (hcalV w2 R2 HR2.out hv).mono ?_
    rintro e w3 ⟨rfl, hg, R3⟩
    have T3 := T2.step hg
    have PB3 := PB2.grown' hg (by omega)
    have GB3 := GB2.grown' hg hbG
    have rows3 := rows2.at hg (by omega)
    have HR3 : Hid (((rdSign l 58 (q1 + W.length)).seq fun _ p2 => (gdOne l n p2).seq fun t p3 => if l[sk l p3]? = some 44 then gdChoice l (gdOne l n) g' (sk l p3 + 1) (ls ++ [W]) (ks ++ [t]) else (rdSign l 125 (sk l p3)).seq fun _ p4 => .ok (ls ++ [W], ks ++ [t]) p4 : Rd (List Str × List Gl)) = RES) := Lib.hid (by rw [← HR1.out, if_neg (by rw [hv]; simp)])
    clear R2 T2 PB2 GB2 rows2 HSd HR1 HR2 hg hcalV hcalB hv
    refine hK.out _ _ (fun _ => ⟨PB3.c, GB3.c5⟩) ?_
    clear hK K
    try simp only [List.getElem_toArray, List.getElem_cons_succ, List.getElem_cons_zero, Act.put, List.setIfInBounds_toArray, List.set_cons_zero, List.set_cons_succ]
    refine wpT_one (i := 8) rfl (by kernel_rfl) fun K hK => ?_
    go_simp
    have hb4 : Below w3.heap.size w3 (w3.alloc (.cells #[.string ⟨W.toArray⟩] 9)) := (Below.refl _ _).alloc (Nat.le_refl _) _
    have hc4 : (w3.alloc (.cells #[.string ⟨W.toArray⟩] 9)).cell? ⟨w3.heap.size, 0, none⟩ = some (.string ⟨W.toArray⟩) := by simp [go_sem]
    have hz4 : w3.heap.size < (w3.alloc (.cells #[.string ⟨W.toArray⟩] 9)).heap.size := by simp
    have R4 := R3.keep hb4
    have T4 := T3.below hb4
    have PB4 := PB3.keep hb4
    have GB4 := GB3.keep hb4 GB3.lt
    have rows4 := rows3.below hb4
    have hlt3 : w.heap.size < w3.heap.size := PB3.lt
    generalize w3.alloc (.cells #[.string ⟨W.toArray⟩] 9) = w4 at hc4 hz4 R4 T4 PB4 GB4 rows4 ⊢
    clear R3 T3 PB3 GB3 rows3 hb4
    refine hK.out _ _ (fun _ => ⟨PB4.c, GB4.c5⟩) ?_
    clear hK K
    try simp only [List.getElem_toArray, List.getElem_cons_succ, List.getElem_cons_zero, Act.put, List.setIfInBounds_toArray, List.set_cons_zero, List.set_cons_succ]
    refine wpT_one (i := 9) rfl (by kernel_rfl) fun K hK => ?_
    refine step_app rt_strs rfl (.tmp 8) (.tmp 12) rfl (w.heap.size + 1) _ ls.length (strVals ls) rfl rows4.labels ⟨w3.heap.size, 0, none⟩ 1 1 [.string ⟨W.toArray⟩] rfl rfl (fun j u hj => ?_) (by simp [Value.oneCell']) (by unfold maxLen; omega) (by omega) (by omega) (fun v' w5 k1 k2 k3 k4 => ?_)
    · match j, hj with
      | 0, hj => simp at hj; subst hj; exact hc4
      | j + 1, hj => simp at hj
    have R5 := R4.keepB k4 (by omega)
    have T5 := T4.belowT k4 (by omega)
    have PB5 := PB4.keepB k4 (by omega)
    have GB5 := GB4.keep k4 (by omega)
    have rows5 := rows4.label k1 k2 k3
    obtain ⟨Av, cv, rfl⟩ := own_form k1
    clear R4 T4 PB4 GB4 rows4 k1 k2 k3 k4 hc4 hz4
    obtain ⟨z0, z1, z2, z3, z4, z5, z6, z7, z8⟩ := id GB5
    refine hK.out _ _ (fun _ => ⟨PB5.c, GB5.c5⟩) ?_
    clear hK K
    try simp only [List.getElem_toArray, List.getElem_cons_succ, List.getElem_cons_zero, Act.put, List.setIfInBounds_toArray, List.set_cons_zero, List.set_cons_succ]
    refine wpT_one (i := 10) rfl (by kernel_rfl) fun K hK => ?_
    go_simp
    refine hK.out _ _ (fun h => absurd h (by decide)) ?_
    clear hK K
    try simp only [List.getElem_toArray, List.getElem_cons_succ, List.getElem_cons_zero, Act.put, List.setIfInBounds_toArray, List.set_cons_zero, List.set_cons_succ]
    refine wpT_one (i := 11) rfl (by kernel_rfl) fun K hK => ?_
    go_simp
    refine hK.out _ _ (fun h => absurd h (by decide)) ?_
    clear hK K
    try simp only [List.getElem_toArray, List.getElem_cons_succ, List.getElem_cons_zero, Act.put, List.setIfInBounds_toArray, List.set_cons_zero, List.set_cons_succ]
    refine wpT_one (i := 12) rfl (by kernel_rfl) fun K hK => ?_
    go_simp
    refine hK.out _ _ (fun h => absurd h (by decide)) ?_
    clear hK K
    try simp only [List.getElem_toArray, List.getElem_cons_succ, List.getElem_cons_zero, Act.put, List.setIfInBounds_toArray, List.set_cons_zero, List.set_cons_succ]
    refine wpT_done (by kernel_rfl) ?_
    have GB6 := GB5.put5 (.slice Av (ls.length + 1) cv)
    have PB6 := PB5.far (p := ⟨G, 5, none⟩) hPG (.slice Av (ls.length + 1) cv)
    have R6 := R5.far (a := ⟨G, 5, none⟩) hbG (.slice Av (ls.length + 1) cv)
    have T6 := T5.set (a := ⟨G, 5, none⟩) (Or.inl rfl) (.slice Av (ls.length + 1) cv)
    have rows6 := rows5.set (a := ⟨G, 5, none⟩) (show G < w.heap.size + 1 by omega) (.slice Av (ls.length + 1) cv)
    generalize w5.setCell ⟨G, 5, none⟩ (.slice Av (ls.length + 1) cv) = w6 at R6 T6 PB6 GB6 rows6 ⊢
    clear R5 T5 PB5 GB5 rows5 z0 z1 z2 z3 z4 z5 z6 z7 z8 hlt hlt3
    go_wp2_with fail
    by_cases h58 : l[sk l (q1 + W.length)]? = some 58
    case neg =>
      refine (gsign_bad l b (q1 + W.length) 58 w6 hl hwq R6 h58).mono ?_
      rintro e w7 ⟨rfl, hg⟩
      have e1 : Rd.bad (sk l (q1 + W.length)) = RES := by rw [← HR3.out, sign_seq_bad h58]
      exact ⟨rfl, T6.step hg, by rw [← e1]⟩
    case pos =>
    have hs2 := sk_le hwq
    have hlt2 := at_lt h58
    have HR4 : Hid (((gdOne l n (sk l (q1 + W.length) + 1)).seq fun t p3 => if l[sk l p3]? = some 44 then gdChoice l (gdOne l n) g' (sk l p3 + 1) (ls ++ [W]) (ks ++ [t]) else (rdSign l 125 (sk l p3)).seq fun _ p4 => .ok (ls ++ [W], ks ++ [t]) p4 : Rd (List Str × List Gl)) = RES) := Lib.hid (by rw [← HR3.out, sign_seq_ok h58])
    refine (gsign_ok l b (q1 + W.length) 58 w6 hl hwq R6 h58).mono ?_
    rintro e w7 ⟨rfl, hg, R7⟩
    have T7 := T6.step hg
    have PB7 := PB6.grown' hg (by omega)
    have GB7 := GB6.grown' hg hbG
    have rows7 := rows6.at hg (by omega)
    clear R6 T6 PB6 GB6 rows6 hg HR3 h58
    generalize sk l (q1 + W.length) = q2 at hs2 hlt2 R7 HR4
    go_wp2_with fail
    refine wp_region_T 0 (fun _ => True) (by kernel_rfl) ?_
    have hbd : Below w7.heap.size w7 w7.drew := (Below.refl _ _).drew
    have R8 := R7.keep hbd
    have T8 := T7.below hbd
    have PB8 := PB7.keep hbd
    have GB8 := GB7.keep hbd GB7.lt
    have rows8 := rows7.below hbd
    generalize w7.drew = w8 at R8 T8 PB8 GB8 rows8 ⊢
    clear R7 T7 PB7 GB7 rows7 hbd
    refine wpT_one (i := 0) rfl (by kernel_rfl) fun K hK => ?_
    go_simp
    refine hK.out _ _ (fun h => absurd h (by decide)) ?_
    clear hK K
    try simp only [List.getElem_toArray, List.getElem_cons_succ, List.getElem_cons_zero, Act.put, List.setIfInBounds_toArray, List.set_cons_zero, List.set_cons_succ]
    refine wpT_two (i := 1) (j := 2) rfl rfl (by kernel_rfl) (fun K hK => ?_) (fun K hK => ?_)
    go_simp
    refine hK.out _ _ (fun h => absurd h (by decide)) ?_
    clear hK K
    try simp only [List.getElem_toArray, List.getElem_cons_succ, List.getElem_cons_zero, Act.put, List.setIfInBounds_toArray, List.set_cons_zero, List.set_cons_succ]
    refine wpT_one (i := 2) rfl (by kernel_rfl) fun K hK => ?_
    go_simp
    refine hK.out _ _ (fun h => absurd h (by decide)) ?_
    have hb9 : Below w8.heap.size w8 (w8.alloc (.cells #[.bool false] 4)) := (Below.refl _ _).alloc (Nat.le_refl _) _
    clear hK K
    try simp only [List.getElem_toArray, List.getElem_cons_succ, List.getElem_cons_zero, Act.put, List.setIfInBounds_toArray, List.set_cons_zero, List.set_cons_succ]
    refine wpT_one (i := 3) rfl (by kernel_rfl) fun K hK => ?_
    go_simp
    refine hK.out _ _ (fun h => absurd h (by decide)) ?_
    clear hK K
    try simp only [List.getElem_toArray, List.getElem_cons_succ, List.getElem_cons_zero, Act.put, List.setIfInBounds_toArray, List.set_cons_zero, List.set_cons_succ]
    refine wpT_done (by kernel_rfl) ?_
    have R9 := R8.keep hb9
    have T9 := T8.below hb9
    have PB9 := PB8.keep hb9
    have GB9 := GB8.keep hb9 GB8.lt
    have rows9 := rows8.below hb9
    generalize w8.alloc (.cells #[.bool false] 4) = w9 at R9 T9 PB9 GB9 rows9 ⊢
    clear R8 T8 PB8 GB8 rows8 hb9
    go_wp2_with fail
    rotate_left
    go_simp
    refine hK.out _ _ (fun h => absurd h (by decide)) ?_
    clear hK K
    try simp only [List.getElem_toArray, List.getElem_cons_succ, List.getElem_cons_zero, Act.put, List.setIfInBounds_toArray, List.set_cons_zero, List.set_cons_succ]
    refine wpT_one (i := 1) rfl (by kernel_rfl) fun K hK => ?_
    go_simp
    refine hK.out _ _ (fun h => absurd h (by decide)) ?_
    have hb9 : Below w8.heap.size w8 (w8.alloc (.cells #[.bool true] 4)) := (Below.refl _ _).alloc (Nat.le_refl _) _
    clear hK K
    try simp only [List.getElem_toArray, List.getElem_cons_succ, List.getElem_cons_zero, Act.put, List.setIfInBounds_toArray, List.set_cons_zero, List.set_cons_succ]
    refine wpT_one (i := 3) rfl (by kernel_rfl) fun K hK => ?_
    go_simp
    refine hK.out _ _ (fun h => absurd h (by decide)) ?_
    clear hK K
    try simp only [List.getElem_toArray, List.getElem_cons_succ, List.getElem_cons_zero, Act.put, List.setIfInBounds_toArray, List.set_cons_zero, List.set_cons_succ]
    refine wpT_done (by kernel_rfl) ?_
    have R9 := R8.keep hb9
    have T9 := T8.below hb9
    have PB9 := PB8.keep hb9
    have GB9 := GB8.keep hb9 GB8.lt
    have rows9 := rows8.below hb9
    generalize w8.alloc (.cells #[.bool true] 4) = w9 at R9 T9 PB9 GB9 rows9 ⊢
    clear R8 T8 PB8 GB8 rows8 hb9
    go_wp2_with fail
    rotate_left
    refine wp_region_T 9 (fun w' : World => w'.cell? ⟨w.heap.size, 0, none⟩ = some (.pointer (some ⟨G, 0, none⟩)) ∧ w'.cell? ⟨G, 6, none⟩ = some (.slice Ak ks.length ck)) (by kernel_rfl) ?_
    have hbd : Below w9.heap.size w9 w9.drew := (Below.refl _ _).drew
    have R10 := R9.keep hbd
    have T10 := T9.below hbd
    have PB10 := PB9.keep hbd
    have GB10 := GB9.keep hbd GB9.lt
    have rows10 := rows9.below hbd
    generalize w9.drew = w10 at R10 T10 PB10 GB10 rows10 ⊢
    clear R9 T9 PB9 GB9 rows9 hbd
    have HSd : Hid ((fun w' : World => w'.cell? ⟨w.heap.size, 0, none⟩ = some (.pointer (some ⟨G, 0, none⟩)) ∧ w'.cell? ⟨G, 6, none⟩ = some (.slice Ak ks.length ck)) w10) := Lib.hid ⟨PB10.c, GB10.c6⟩
    refine wpT_take (i := 0) (v := ?_) rfl (by kernel_rfl) (by kernel_rfl) (by kernel_rfl) (by kernel_rfl) (fun _ _ _ h => h) (Or.inl ⟨by rfl, ?_⟩) HSd.out ?_
    rotate_left
    · (intro wq hSw; obtain ⟨z1, z2⟩ := hSw; go_simp; all_goals (first | (with_reducible rfl) | (rw [if_neg (by first | omega | (simp; omega) | (simp only [List.length_append, List.length_cons, List.length_nil]; omega))])))
    simp only [List.getElem_toArray, List.getElem_cons_succ, List.getElem_cons_zero, Act.put, List.setIfInBounds_toArray, List.set_cons_zero, List.set_cons_succ]
    refine wpT_take (i := 1) (v := ?_) rfl (by kernel_rfl) (by kernel_rfl) (by kernel_rfl) (by kernel_rfl) (fun _ _ _ h => h) (Or.inl ⟨by rfl, ?_⟩) HSd.out ?_
    rotate_left
    · (intro wq hSw; obtain ⟨z1, z2⟩ := hSw; go_simp; all_goals (first | (with_reducible rfl) | (rw [if_neg (by first | omega | (simp; omega) | (simp only [List.length_append, List.length_cons, List.length_nil]; omega))])))
    simp only [List.getElem_toArray, List.getElem_cons_succ, List.getElem_cons_zero, Act.put, List.setIfInBounds_toArray, List.set_cons_zero, List.set_cons_succ]
    refine wpT_take (i := 2) (v := ?_) rfl (by kernel_rfl) (by kernel_rfl) (by kernel_rfl) (by kernel_rfl) (fun _ _ _ h => h) (Or.inl ⟨by rfl, ?_⟩) HSd.out ?_
    rotate_left
    · (intro wq hSw; obtain ⟨z1, z2⟩ := hSw; go_simp; all_goals (first | (with_reducible rfl) | (rw [if_neg (by first | omega | (simp; omega) | (simp only [List.length_append, List.length_cons, List.length_nil]; omega))])))
    simp only [List.getElem_toArray, List.getElem_cons_succ, List.getElem_cons_zero, Act.put, List.setIfInBounds_toArray, List.set_cons_zero, List.set_cons_succ]
    refine wpT_take (i := 3) (v := ?_) rfl (by kernel_rfl) (by kernel_rfl) (by kernel_rfl) (by kernel_rfl) (fun _ _ _ h => h) (Or.inl ⟨by rfl, ?_⟩) HSd.out ?_
    rotate_left
    · (intro wq hSw; obtain ⟨z1, z2⟩ := hSw; go_simp; all_goals (first | (with_reducible rfl) | (rw [if_neg (by first | omega | (simp; omega) | (simp only [List.length_append, List.length_cons, List.length_nil]; omega))])))
    simp only [List.getElem_toArray, List.getElem_cons_succ, List.getElem_cons_zero, Act.put, List.setIfInBounds_toArray, List.set_cons_zero, List.set_cons_succ]
    refine wpT_take (i := 4) (v := ?_) rfl (by kernel_rfl) (by kernel_rfl) (by kernel_rfl) (by kernel_rfl) (fun _ _ _ h => h) (Or.inl ⟨by rfl, ?_⟩) HSd.out ?_
    rotate_left
    · (intro wq hSw; obtain ⟨z1, z2⟩ := hSw; go_simp; all_goals (first | (with_reducible rfl) | (rw [if_neg (by first | omega | (simp; omega) | (simp only [List.length_append, List.length_cons, List.length_nil]; omega))])))
    simp only [List.getElem_toArray, List.getElem_cons_succ, List.getElem_cons_zero, Act.put, List.setIfInBounds_toArray, List.set_cons_zero, List.set_cons_succ]
    refine wpT_take (i := 5) (v := ?_) rfl (by kernel_rfl) (by kernel_rfl) (by kernel_rfl) (by kernel_rfl) (fun _ _ _ h => h) (Or.inl ⟨by rfl, ?_⟩) HSd.out ?_
    rotate_left
    · (intro wq hSw; obtain ⟨z1, z2⟩ := hSw; go_simp; all_goals (first | (with_reducible rfl) | (rw [if_neg (by first | omega | (simp; omega) | (simp only [List.length_append, List.length_cons, List.length_nil]; omega))])))
    simp only [List.getElem_toArray, List.getElem_cons_succ, List.getElem_cons_zero, Act.put, List.setIfInBounds_toArray, List.set_cons_zero, List.set_cons_succ]
    refine wpT_one (i := 6) rfl (by kernel_rfl) fun K hK => ?_
    go_simp
    refine (ih (q2 + 1) w10 (by omega) (by omega) (hSk w0 w10 hS (T10.grown hg0 hG0)) R10).mono ?_
    rintro e w11 ⟨hg, hans⟩
    have T11 := T10.step hg
    have PB11 := PB10.grown' hg (by omega)
    have GB11 := GB10.grown' hg hbG
    have rows11 := rows10.at hg (by omega)
    have hlab := fun k e => (rows10.labels.lt k e).2
    have hkid := fun k e => (rows10.kids.lt k e).2
    have htook := gdOne_took (l := l) n (q2 + 1) (by omega)
    have hzz : w.heap.size < w10.heap.size := PB10.lt
    rcases rd_cases (gdOne l n (q2 + 1)) with ⟨q', hr⟩ | ⟨u, p3, hr⟩
    · rw [hr] at hans
      simp only at hans
      subst hans
      have e1 : Rd.bad q' = RES := by rw [← HR4.out, hr]; rfl
      exact ⟨rfl, T11, by rw [← e1]⟩
    rw [hr] at hans htook
    obtain ⟨v, rfl, hu, R11⟩ := hans
    obtain ⟨ht1, ht2⟩ : q2 + 1 ≤ p3 ∧ p3 ≤ l.length := htook
    have HR5 : Hid ((if l[sk l p3]? = some 44 then gdChoice l (gdOne l n) g' (sk l p3 + 1) (ls ++ [W]) (ks ++ [u]) else (rdSign l 125 (sk l p3)).seq fun _ p4 => .ok (ls ++ [W], ks ++ [u]) p4 : Rd (List Str × List Gl)) = RES) := Lib.hid (by rw [← HR4.out, hr]; rfl)
    obtain ⟨lv, kv, rfl, m1, m2⟩ := hu
    have hdis : ∀ k, w10.heap.size ≤ k → w.heap.size + 1 ≤ k ∧ (Value.slice Av (ls.length + 1) cv).ownBlock ≠ some k ∧ (Value.slice Ak ks.length ck).ownBlock ≠ some k := fun k hk => ⟨by omega, fun e => by have := hlab k e; omega, fun e => by have := hkid k e; omega⟩
    have M1 := Lib.hid (m1.keep (D' := fun k => w.heap.size + 1 ≤ k ∧ (Value.slice Av (ls.length + 1) cv).ownBlock ≠ some k ∧ (Value.slice Ak ks.length ck).ownBlock ≠ some k) (fun _ _ _ => rfl) (fun k hk _ => hdis k hk))
    have M2 := Lib.hid (m2.keep (D' := fun k => w.heap.size + 1 ≤ k ∧ (Value.slice Av (ls.length + 1) cv).ownBlock ≠ some k ∧ (Value.slice Ak ks.length ck).ownBlock ≠ some k) (fun _ _ _ => rfl) (fun k hk _ => hdis k hk))
    obtain ⟨A1, c1, rfl, -, -⟩ := m1
    obtain ⟨A2, c2, rfl, -, -⟩ := m2
    clear R10 T10 PB10 GB10 rows10 HSd hg hlab hkid hdis hr HR4
    refine hK.out _ _ (fun _ => ⟨PB11.c, GB11.c6⟩) ?_
    clear hK K
    try simp only [List.getElem_toArray, List.getElem_cons_succ, List.getElem_cons_zero, Act.put, List.setIfInBounds_toArray, List.set_cons_zero, List.set_cons_succ]
    refine wpT_one (i := 7) rfl (by kernel_rfl) fun K hK => ?_
    go_simp
    have hb12 : Below w11.heap.size w11 (w11.alloc (.cells #[.int .i64 u.kind, .string ⟨u.frm.toArray⟩, .string ⟨u.rcv.toArray⟩, .int .i64 u.sort, .string ⟨u.name.toArray⟩, .slice A1 u.labels.length c1, .slice A2 u.kids.length c2] 42)) := (Below.refl _ _).alloc (Nat.le_refl _) _
    have hs12 : ∀ j v, ([.int .i64 u.kind, .string ⟨u.frm.toArray⟩, .string ⟨u.rcv.toArray⟩, .int .i64 u.sort, .string ⟨u.name.toArray⟩, .slice A1 u.labels.length c1, .slice A2 u.kids.length c2] : List Value)[j]? = some v → (w11.alloc (.cells #[.int .i64 u.kind, .string ⟨u.frm.toArray⟩, .string ⟨u.rcv.toArray⟩, .int .i64 u.sort, .string ⟨u.name.toArray⟩, .slice A1 u.labels.length c1, .slice A2 u.kids.length c2] 42)).cell? ((⟨w11.heap.size, 0, none⟩ : Addr).add j) = some v := seven_new _ _ _ _ _ _ _ _ _
    have hz12 : w11.heap.size < (w11.alloc (.cells #[.int .i64 u.kind, .string ⟨u.frm.toArray⟩, .string ⟨u.rcv.toArray⟩, .int .i64 u.sort, .string ⟨u.name.toArray⟩, .slice A1 u.labels.length c1, .slice A2 u.kids.length c2] 42)).heap.size := by simp
    have hc12 : Cells7 (fun k => w.heap.size + 1 ≤ k ∧ (Value.slice Av (ls.length + 1) cv).ownBlock ≠ some k ∧ (Value.slice Ak ks.length ck).ownBlock ≠ some k) (w11.alloc (.cells #[.int .i64 u.kind, .string ⟨u.frm.toArray⟩, .string ⟨u.rcv.toArray⟩, .int .i64 u.sort, .string ⟨u.name.toArray⟩, .slice A1 u.labels.length c1, .slice A2 u.kids.length c2] 42)) [.int .i64 u.kind, .string ⟨u.frm.toArray⟩, .string ⟨u.rcv.toArray⟩, .int .i64 u.sort, .string ⟨u.name.toArray⟩, .slice A1 u.labels.length c1, .slice A2 u.kids.length c2] [u] := .cons u _ _ [] [] (M1.out.keep (Same.below hb12) (fun _ h _ => h)) (M2.out.keep (Same.below hb12) (fun _ h _ => h)) .nil
    have HC12 := Lib.hid hc12; clear hc12
    have R12 := R11.keep hb12
    have T12 := T11.below hb12
    have PB12 := PB11.keep hb12
    have GB12 := GB11.keep hb12 GB11.lt
    have rows12 := rows11.below hb12
    have hzb : w.heap.size < w11.heap.size := PB11.lt
    generalize w11.alloc (.cells #[.int .i64 u.kind, .string ⟨u.frm.toArray⟩, .string ⟨u.rcv.toArray⟩, .int .i64 u.sort, .string ⟨u.name.toArray⟩, .slice A1 u.labels.length c1, .slice A2 u.kids.length c2] 42) = w12 at hs12 hz12 HC12 R12 T12 PB12 GB12 rows12 ⊢
    clear R11 T11 PB11 GB11 rows11 hb12 M1 M2
    refine hK.out _ _ (fun _ => ⟨PB12.c, GB12.c6⟩) ?_
    clear hK K
    try simp only [List.getElem_toArray, List.getElem_cons_succ, List.getElem_cons_zero, Act.put, List.setIfInBounds_toArray, List.set_cons_zero, List.set_cons_succ]
    refine wpT_one (i := 8) rfl (by kernel_rfl) fun K hK => ?_
    refine step_app rt_gls rfl (.tmp 36) (.tmp 39) rfl (w.heap.size + 1) _ ks.length xs rfl rows12.kids ⟨w11.heap.size, 0, none⟩ 1 1 [.int .i64 u.kind, .string ⟨u.frm.toArray⟩, .string ⟨u.rcv.toArray⟩, .int .i64 u.sort, .string ⟨u.name.toArray⟩, .slice A1 u.labels.length c1, .slice A2 u.kids.length c2] rfl rfl hs12 (by simp [Value.oneCell']) (by unfold maxLen; omega) (by omega) (by omega) (fun v' w13 k1 k2 k3 k4 => ?_)
    have rows13 := rows12.kid HC12.out k1 k2 k3
    have R13 := R12.keepB k4 (by omega)
    have T13 := T12.belowT k4 (by omega)
    have PB13 := PB12.keepB k4 (by omega)
    have GB13 := GB12.keep k4 (by omega)
    obtain ⟨Ax, cx, rfl⟩ := own_form k1
    clear R12 T12 PB12 GB12 rows12 k1 k2 k3 k4 hs12 hz12 HC12
    obtain ⟨z0, z1, z2, z3, z4, z5, z6, z7, z8⟩ := id GB13
    refine hK.out _ _ (fun _ => ⟨PB13.c, GB13.c6⟩) ?_
    clear hK K
    try simp only [List.getElem_toArray, List.getElem_cons_succ, List.getElem_cons_zero, Act.put, List.setIfInBounds_toArray, List.set_cons_zero, List.set_cons_succ]
    refine wpT_one (i := 9) rfl (by kernel_rfl) fun K hK => ?_
    go_simp
    refine hK.out _ _ (fun h => absurd h (by decide)) ?_
    clear hK K
    try simp only [List.getElem_toArray, List.getElem_cons_succ, List.getElem_cons_zero, Act.put, List.setIfInBounds_toArray, List.set_cons_zero, List.set_cons_succ]
    refine wpT_one (i := 10) rfl (by kernel_rfl) fun K hK => ?_
    go_simp
    refine hK.out _ _ (fun h => absurd h (by decide)) ?_
    clear hK K
    try simp only [List.getElem_toArray, List.getElem_cons_succ, List.getElem_cons_zero, Act.put, List.setIfInBounds_toArray, List.set_cons_zero, List.set_cons_succ]
    refine wpT_one (i := 11) rfl (by kernel_rfl) fun K hK => ?_
    go_simp
    refine hK.out _ _ (fun h => absurd h (by decide)) ?_
    clear hK K
    try simp only [List.getElem_toArray, List.getElem_cons_succ, List.getElem_cons_zero, Act.put, List.setIfInBounds_toArray, List.set_cons_zero, List.set_cons_succ]
    refine wpT_done (by kernel_rfl) ?_
    have GB14 := GB13.put6 (.slice Ax (ks.length + 1) cx)
    have PB14 := PB13.far (p := ⟨G, 6, none⟩) hPG (.slice Ax (ks.length + 1) cx)
    have R14 := R13.far (a := ⟨G, 6, none⟩) hbG (.slice Ax (ks.length + 1) cx)
    have T14 := T13.set (a := ⟨G, 6, none⟩) (Or.inl rfl) (.slice Ax (ks.length + 1) cx)
    have rows14 := rows13.set (a := ⟨G, 6, none⟩) (show G < w.heap.size + 1 by omega) (.slice Ax (ks.length + 1) cx)
    generalize w13.setCell ⟨G, 6, none⟩ (.slice Ax (ks.length + 1) cx) = w15 at R14 T14 PB14 GB14 rows14 ⊢
    clear R13 T13 PB13 GB13 rows13 z0 z1 z2 z3 z4 z5 z6 z7 z8
    have R15 := R14
    have T15 := T14
    have PB15 := PB14
    have GB15 := GB14
    have rows15 := rows14
    clear R14 T14 PB14 GB14 rows14 
    go_wp2_with fail
    rotate_left
    refine wp_region_T 9 (fun w' : World => w'.cell? ⟨w.heap.size, 0, none⟩ = some (.pointer (some ⟨G, 0, none⟩)) ∧ w'.cell? ⟨G, 6, none⟩ = some (.slice Ak ks.length ck)) (by kernel_rfl) ?_
    have hbd : Below w9.heap.size w9 w9.drew := (Below.refl _ _).drew
    have R10 := R9.keep hbd
    have T10 := T9.below hbd
    have PB10 := PB9.keep hbd
    have GB10 := GB9.keep hbd GB9.lt
    have rows10 := rows9.below hbd
    generalize w9.drew = w10 at R10 T10 PB10 GB10 rows10 ⊢
    clear R9 T9 PB9 GB9 rows9 hbd
    have HSd : Hid ((fun w' : World => w'.cell? ⟨w.heap.size, 0, none⟩ = some (.pointer (some ⟨G, 0, none⟩)) ∧ w'.cell? ⟨G, 6, none⟩ = some (.slice Ak ks.length ck)) w10) := Lib.hid ⟨PB10.c, GB10.c6⟩
    refine wpT_take (i := 0) (v := ?_) rfl (by kernel_rfl) (by kernel_rfl) (by kernel_rfl) (by kernel_rfl) (fun _ _ _ h => h) (Or.inl ⟨by rfl, ?_⟩) HSd.out ?_
    rotate_left
    · (intro wq hSw; obtain ⟨z1, z2⟩ := hSw; go_simp; all_goals (first | (with_reducible rfl) | (rw [if_neg (by first | omega | (simp; omega) | (simp only [List.length_append, List.length_cons, List.length_nil]; omega))])))
    simp only [List.getElem_toArray, List.getElem_cons_succ, List.getElem_cons_zero, Act.put, List.setIfInBounds_toArray, List.set_cons_zero, List.set_cons_succ]
    refine wpT_take (i := 1) (v := ?_) rfl (by kernel_rfl) (by kernel_rfl) (by kernel_rfl) (by kernel_rfl) (fun _ _ _ h => h) (Or.inl ⟨by rfl, ?_⟩) HSd.out ?_
    rotate_left
    · (intro wq hSw; obtain ⟨z1, z2⟩ := hSw; go_simp; all_goals (first | (with_reducible rfl) | (rw [if_neg (by first | omega | (simp; omega) | (simp only [List.length_append, List.length_cons, List.length_nil]; omega))])))
    simp only [List.getElem_toArray, List.getElem_cons_succ, List.getElem_cons_zero, Act.put, List.setIfInBounds_toArray, List.set_cons_zero, List.set_cons_succ]
    refine wpT_take (i := 2) (v := ?_) rfl (by kernel_rfl) (by kernel_rfl) (by kernel_rfl) (by kernel_rfl) (fun _ _ _ h => h) (Or.inl ⟨by rfl, ?_⟩) HSd.out ?_
    rotate_left
    · (intro wq hSw; obtain ⟨z1, z2⟩ := hSw; go_simp; all_goals (first | (with_reducible rfl) | (rw [if_neg (by first | omega | (simp; omega) | (simp only [List.length_append, List.length_cons, List.length_nil]; omega))])))
    simp only [List.getElem_toArray, List.getElem_cons_succ, List.getElem_cons_zero, Act.put, List.setIfInBounds_toArray, List.set_cons_zero, List.set_cons_succ]
    refine wpT_take (i := 3) (v := ?_) rfl (by kernel_rfl) (by kernel_rfl) (by kernel_rfl) (by kernel_rfl) (fun _ _ _ h => h) (Or.inl ⟨by rfl, ?_⟩) HSd.out ?_
    rotate_left
    · (intro wq hSw; obtain ⟨z1, z2⟩ := hSw; go_simp; all_goals (first | (with_reducible rfl) | (rw [if_neg (by first | omega | (simp; omega) | (simp only [List.length_append, List.length_cons, List.length_nil]; omega))])))
    simp only [List.getElem_toArray, List.getElem_cons_succ, List.getElem_cons_zero, Act.put, List.setIfInBounds_toArray, List.set_cons_zero, List.set_cons_succ]
    refine wpT_take (i := 4) (v := ?_) rfl (by kernel_rfl) (by kernel_rfl) (by kernel_rfl) (by kernel_rfl) (fun _ _ _ h => h) (Or.inl ⟨by rfl, ?_⟩) HSd.out ?_
    rotate_left
    · (intro wq hSw; obtain ⟨z1, z2⟩ := hSw; go_simp; all_goals (first | (with_reducible rfl) | (rw [if_neg (by first | omega | (simp; omega) | (simp only [List.length_append, List.length_cons, List.length_nil]; omega))])))
    simp only [List.getElem_toArray, List.getElem_cons_succ, List.getElem_cons_zero, Act.put, List.setIfInBounds_toArray, List.set_cons_zero, List.set_cons_succ]
    refine wpT_take (i := 6) (v := ?_) rfl (by kernel_rfl) (by kernel_rfl) (by kernel_rfl) (by kernel_rfl) (fun _ _ _ h => h) (Or.inl ⟨by rfl, ?_⟩) HSd.out ?_
    rotate_left
    · (intro wq hSw; obtain ⟨z1, z2⟩ := hSw; go_simp; all_goals (first | (with_reducible rfl) | (rw [if_neg (by first | omega | (simp; omega) | (simp only [List.length_append, List.length_cons, List.length_nil]; omega))])))
    simp only [List.getElem_toArray, List.getElem_cons_succ, List.getElem_cons_zero, Act.put, List.setIfInBounds_toArray, List.set_cons_zero, List.set_cons_succ]
    refine wpT_two (i := 5) (j := 7) rfl rfl (by kernel_rfl) (fun K hK => ?_) (fun K hK => ?_)
    go_simp
    refine (ih (q2 + 1) w10 (by omega) (by omega) (hSk w0 w10 hS (T10.grown hg0 hG0)) R10).mono ?_
    rintro e w11 ⟨hg, hans⟩
    have T11 := T10.step hg
    have PB11 := PB10.grown' hg (by omega)
    have GB11 := GB10.grown' hg hbG
    have rows11 := rows10.at hg (by omega)
    have hlab := fun k e => (rows10.labels.lt k e).2
    have hkid := fun k e => (rows10.kids.lt k e).2
    have htook := gdOne_took (l := l) n (q2 + 1) (by omega)
    have hzz : w.heap.size < w10.heap.size := PB10.lt
    rcases rd_cases (gdOne l n (q2 + 1)) with ⟨q', hr⟩ | ⟨u, p3, hr⟩
    · rw [hr] at hans
      simp only at hans
      subst hans
      have e1 : Rd.bad q' = RES := by rw [← HR4.out, hr]; rfl
      exact ⟨rfl, T11, by rw [← e1]⟩
    rw [hr] at hans htook
    obtain ⟨v, rfl, hu, R11⟩ := hans
    obtain ⟨ht1, ht2⟩ : q2 + 1 ≤ p3 ∧ p3 ≤ l.length := htook
    have HR5 : Hid ((if l[sk l p3]? = some 44 then gdChoice l (gdOne l n) g' (sk l p3 + 1) (ls ++ [W]) (ks ++ [u]) else (rdSign l 125 (sk l p3)).seq fun _ p4 => .ok (ls ++ [W], ks ++ [u]) p4 : Rd (List Str × List Gl)) = RES) := Lib.hid (by rw [← HR4.out, hr]; rfl)
    obtain ⟨lv, kv, rfl, m1, m2⟩ := hu
    have hdis : ∀ k, w10.heap.size ≤ k → w.heap.size + 1 ≤ k ∧ (Value.slice Av (ls.length + 1) cv).ownBlock ≠ some k ∧ (Value.slice Ak ks.length ck).ownBlock ≠ some k := fun k hk => ⟨by omega, fun e => by have := hlab k e; omega, fun e => by have := hkid k e; omega⟩
    have M1 := Lib.hid (m1.keep (D' := fun k => w.heap.size + 1 ≤ k ∧ (Value.slice Av (ls.length + 1) cv).ownBlock ≠ some k ∧ (Value.slice Ak ks.length ck).ownBlock ≠ some k) (fun _ _ _ => rfl) (fun k hk _ => hdis k hk))
    have M2 := Lib.hid (m2.keep (D' := fun k => w.heap.size + 1 ≤ k ∧ (Value.slice Av (ls.length + 1) cv).ownBlock ≠ some k ∧ (Value.slice Ak ks.length ck).ownBlock ≠ some k) (fun _ _ _ => rfl) (fun k hk _ => hdis k hk))
    obtain ⟨A1, c1, rfl, -, -⟩ := m1
    obtain ⟨A2, c2, rfl, -, -⟩ := m2
    clear R10 T10 PB10 GB10 rows10 HSd hg hlab hkid hdis hr HR4
    refine hK.out _ _ (fun _ => ⟨PB11.c, GB11.c6⟩) ?_
    clear hK K
    try simp only [List.getElem_toArray, List.getElem_cons_succ, List.getElem_cons_zero, Act.put, List.setIfInBounds_toArray, List.set_cons_zero, List.set_cons_succ]
    refine wpT_one (i := 7) rfl (by kernel_rfl) fun K hK => ?_
    go_simp
    have hb12 : Below w11.heap.size w11 (w11.alloc (.cells #[.int .i64 0, .string ⟨#[]⟩, .string ⟨#[]⟩, .int .i64 0, .string ⟨#[]⟩, .slice none 0 0, .slice none 0 0] 42)) := (Below.refl _ _).alloc (Nat.le_refl _) _
    have hs12 : ∀ j v, ([.int .i64 0, .string ⟨#[]⟩, .string ⟨#[]⟩, .int .i64 0, .string ⟨#[]⟩, .slice none 0 0, .slice none 0 0] : List Value)[j]? = some v → (w11.alloc (.cells #[.int .i64 0, .string ⟨#[]⟩, .string ⟨#[]⟩, .int .i64 0, .string ⟨#[]⟩, .slice none 0 0, .slice none 0 0] 42)).cell? ((⟨w11.heap.size, 0, none⟩ : Addr).add j) = some v := seven_new _ _ _ _ _ _ _ _ _
    have hZ : w11.heap.size < (w11.alloc (.cells #[.int .i64 0, .string ⟨#[]⟩, .string ⟨#[]⟩, .int .i64 0, .string ⟨#[]⟩, .slice none 0 0, .slice none 0 0] 42)).heap.size := by simp
    have HC12 : Hid (Cells7 (fun k => w.heap.size + 1 ≤ k ∧ (Value.slice Av (ls.length + 1) cv).ownBlock ≠ some k ∧ (Value.slice Ak ks.length ck).ownBlock ≠ some k) (w11.alloc (.cells #[.int .i64 0, .string ⟨#[]⟩, .string ⟨#[]⟩, .int .i64 0, .string ⟨#[]⟩, .slice none 0 0, .slice none 0 0] 42)) [.int .i64 u.kind, .string ⟨u.frm.toArray⟩, .string ⟨u.rcv.toArray⟩, .int .i64 u.sort, .string ⟨u.name.toArray⟩, .slice A1 u.labels.length c1, .slice A2 u.kids.length c2] [u]) := Lib.hid (.cons u _ _ [] [] (M1.out.keep (Same.below hb12) (fun _ h _ => h)) (M2.out.keep (Same.below hb12) (fun _ h _ => h)) .nil)
    have R12 := R11.keep hb12
    have T12 := T11.below hb12
    have PB12 := PB11.keep hb12
    have GB12 := GB11.keep hb12 GB11.lt
    have rows12 := rows11.below hb12
    have hzb : w.heap.size < w11.heap.size := PB11.lt
    generalize w11.alloc (.cells #[.int .i64 0, .string ⟨#[]⟩, .string ⟨#[]⟩, .int .i64 0, .string ⟨#[]⟩, .slice none 0 0, .slice none 0 0] 42) = w12 at hs12 hZ HC12 R12 T12 PB12 GB12 rows12 ⊢
    clear R11 T11 PB11 GB11 rows11 hb12 M1 M2
    generalize w11.heap.size = Z at hs12 hZ hzb ⊢
    refine hK.out _ _ (fun _ => ⟨PB12.c, GB12.c6⟩) ?_
    clear hK K
    try simp only [List.getElem_toArray, List.getElem_cons_succ, List.getElem_cons_zero, Act.put, List.setIfInBounds_toArray, List.set_cons_zero, List.set_cons_succ]
    rotate_left
    go_simp
    have hb11 : Below w10.heap.size w10 (w10.alloc (.cells #[.int .i64 0, .string ⟨#[]⟩, .string ⟨#[]⟩, .int .i64 0, .string ⟨#[]⟩, .slice none 0 0, .slice none 0 0] 42)) := (Below.refl _ _).alloc (Nat.le_refl _) _
    have hs11 : ∀ j v, ([.int .i64 0, .string ⟨#[]⟩, .string ⟨#[]⟩, .int .i64 0, .string ⟨#[]⟩, .slice none 0 0, .slice none 0 0] : List Value)[j]? = some v → (w10.alloc (.cells #[.int .i64 0, .string ⟨#[]⟩, .string ⟨#[]⟩, .int .i64 0, .string ⟨#[]⟩, .slice none 0 0, .slice none 0 0] 42)).cell? ((⟨w10.heap.size, 0, none⟩ : Addr).add j) = some v := seven_new _ _ _ _ _ _ _ _ _
    have hZ11 : w10.heap.size < (w10.alloc (.cells #[.int .i64 0, .string ⟨#[]⟩, .string ⟨#[]⟩, .int .i64 0, .string ⟨#[]⟩, .slice none 0 0, .slice none 0 0] 42)).heap.size := by simp
    have R11 := R10.keep hb11
    have T11 := T10.below hb11
    have PB11 := PB10.keep hb11
    have GB11 := GB10.keep hb11 GB10.lt
    have rows11 := rows10.below hb11
    have hzb : w.heap.size < w10.heap.size := PB10.lt
    generalize w10.alloc (.cells #[.int .i64 0, .string ⟨#[]⟩, .string ⟨#[]⟩, .int .i64 0, .string ⟨#[]⟩, .slice none 0 0, .slice none 0 0] 42) = w11 at hs11 hZ11 R11 T11 PB11 GB11 rows11 ⊢
    clear R10 T10 PB10 GB10 rows10 hb11 HSd
    generalize w10.heap.size = Z at hs11 hZ11 hzb ⊢
    refine hK.out _ _ (fun _ => ⟨PB11.c, GB11.c6⟩) ?_
    clear hK K
    try simp only [List.getElem_toArray, List.getElem_cons_succ, List.getElem_cons_zero, Act.put, List.setIfInBounds_toArray, List.set_cons_zero, List.set_cons_succ]
    refine wpT_one (i := 5) rfl (by kernel_rfl) fun K hK => ?_
    go_simp
    refine (ih (q2 + 1) w11 (by omega) (by omega) (hSk w0 w11 hS (T11.grown hg0 hG0)) R11).mono ?_
    rintro e w12 ⟨hg, hans⟩
    have T12 := T11.step hg
    have PB12 := PB11.grown' hg (by omega)
    have GB12 := GB11.grown' hg hbG
    have rows12 := rows11.at hg (by omega)
    have hlab := fun k e => (rows11.labels.lt k e).2
    have hkid := fun k e => (rows11.kids.lt k e).2
    have htook := gdOne_took (l := l) n (q2 + 1) (by omega)
    have hzz : w.heap.size < w11.heap.size := PB11.lt
    rcases rd_cases (gdOne l n (q2 + 1)) with ⟨q', hr⟩ | ⟨u, p3, hr⟩
    · rw [hr] at hans
      simp only at hans
      subst hans
      have e1 : Rd.bad q' = RES := by rw [← HR4.out, hr]; rfl
      exact ⟨rfl, T12, by rw [← e1]⟩
    rw [hr] at hans htook
    obtain ⟨v, rfl, hu, R12⟩ := hans
    obtain ⟨ht1, ht2⟩ : q2 + 1 ≤ p3 ∧ p3 ≤ l.length := htook
    have HR5 : Hid ((if l[sk l p3]? = some 44 then gdChoice l (gdOne l n) g' (sk l p3 + 1) (ls ++ [W]) (ks ++ [u]) else (rdSign l 125 (sk l p3)).seq fun _ p4 => .ok (ls ++ [W], ks ++ [u]) p4 : Rd (List Str × List Gl)) = RES) := Lib.hid (by rw [← HR4.out, hr]; rfl)
    obtain ⟨lv, kv, rfl, m1, m2⟩ := hu
    have hdis : ∀ k, w11.heap.size ≤ k → w.heap.size + 1 ≤ k ∧ (Value.slice Av (ls.length + 1) cv).ownBlock ≠ some k ∧ (Value.slice Ak ks.length ck).ownBlock ≠ some k := fun k hk => ⟨by omega, fun e => by have := hlab k e; omega, fun e => by have := hkid k e; omega⟩
    have M1 := Lib.hid (m1.keep (D' := fun k => w.heap.size + 1 ≤ k ∧ (Value.slice Av (ls.length + 1) cv).ownBlock ≠ some k ∧ (Value.slice Ak ks.length ck).ownBlock ≠ some k) (fun _ _ _ => rfl) (fun k hk _ => hdis k hk))
    have M2 := Lib.hid (m2.keep (D' := fun k => w.heap.size + 1 ≤ k ∧ (Value.slice Av (ls.length + 1) cv).ownBlock ≠ some k ∧ (Value.slice Ak ks.length ck).ownBlock ≠ some k) (fun _ _ _ => rfl) (fun k hk _ => hdis k hk))
    obtain ⟨A1, c1, rfl, -, -⟩ := m1
    obtain ⟨A2, c2, rfl, -, -⟩ := m2
    have hZ : Z < w12.heap.size := Nat.lt_of_lt_of_le hZ11 hg.size
    have hs12 : ∀ j v, ([.int .i64 0, .string ⟨#[]⟩, .string ⟨#[]⟩, .int .i64 0, .string ⟨#[]⟩, .slice none 0 0, .slice none 0 0] : List Value)[j]? = some v → w12.cell? ((⟨Z, 0, none⟩ : Addr).add j) = some v := fun j v hj => by
      have h := hs11 j v hj
      rw [Go.WideShapes.add_plain] at h ⊢
      exact (World.cell?_of_block (a := ⟨Z, 0 + j, none⟩) (hg.block Z hZ11 (fun e => by have := Option.some.inj e; omega))).trans h
    have HC12 : Hid (Cells7 (fun k => w.heap.size + 1 ≤ k ∧ (Value.slice Av (ls.length + 1) cv).ownBlock ≠ some k ∧ (Value.slice Ak ks.length ck).ownBlock ≠ some k) w12 [.int .i64 u.kind, .string ⟨u.frm.toArray⟩, .string ⟨u.rcv.toArray⟩, .int .i64 u.sort, .string ⟨u.name.toArray⟩, .slice A1 u.labels.length c1, .slice A2 u.kids.length c2] [u]) := Lib.hid (.cons u _ _ [] [] M1.out M2.out .nil)
    clear hs11 hZ11 M1 M2
    clear R11 T11 PB11 GB11 rows11 hg hlab hkid hdis hr HR4
    refine hK.out _ _ (fun _ => ⟨PB12.c, GB12.c6⟩) ?_
    clear hK K
    try simp only [List.getElem_toArray, List.getElem_cons_succ, List.getElem_cons_zero, Act.put, List.setIfInBounds_toArray, List.set_cons_zero, List.set_cons_succ]
    rotate_left
    rotate_left
    iterate 2
      refine wpT_one (i := 8) rfl (by kernel_rfl) fun K hK => ?_
      refine step_app rt_gls rfl (.tmp 23) (.tmp 27) rfl (w.heap.size + 1) _ ks.length xs rfl rows12.kids ⟨Z, 0, none⟩ 1 1 [.int .i64 0, .string ⟨#[]⟩, .string ⟨#[]⟩, .int .i64 0, .string ⟨#[]⟩, .slice none 0 0, .slice none 0 0] rfl rfl hs12 (by simp [Value.oneCell']) (by unfold maxLen; omega) (by omega) (by omega) (fun v' w13 k1 k2 k3 k4 => ?_)
      have R13 := R12.keepB k4 (by omega)
      have T13 := T12.belowT k4 (by omega)
      have PB13 := PB12.keepB k4 (by omega)
      have GB13 := GB12.keep k4 (by omega)
      obtain ⟨g, cx, rfl, hgb, hgs⟩ := k1.form (by omega)
      have rows15 := rows12.put (show G < w.heap.size + 1 by omega) GB12.lt (.slice (some ⟨g, 0, none⟩) (ks.length + 1) cx) k1 k2 k3 HC12.out
      have hx7 := rows12.kids.1
      have HK1 := Lib.hid k1
      clear R12 T12 PB12 GB12 rows12 k1 k2 k3 k4 hs12 HC12
      obtain ⟨z0, z1, z2, z3, z4, z5, z6, z7, z8⟩ := id GB13
      refine hK.out _ _ (fun _ => ⟨PB13.c, GB13.c6⟩) ?_
      clear hK K
      try simp only [List.getElem_toArray, List.getElem_cons_succ, List.getElem_cons_zero, Act.put, List.setIfInBounds_toArray, List.set_cons_zero, List.set_cons_succ]
      refine wpT_one (i := 9) rfl (by kernel_rfl) fun K hK => ?_
      go_simp
      refine hK.out _ _ (fun h => absurd h (by decide)) ?_
      clear hK K
      try simp only [List.getElem_toArray, List.getElem_cons_succ, List.getElem_cons_zero, Act.put, List.setIfInBounds_toArray, List.set_cons_zero, List.set_cons_succ]
      refine wpT_one (i := 10) rfl (by kernel_rfl) fun K hK => ?_
      go_simp
      refine hK.out _ _ (fun h => absurd h (by decide)) ?_
      clear hK K
      try simp only [List.getElem_toArray, List.getElem_cons_succ, List.getElem_cons_zero, Act.put, List.setIfInBounds_toArray, List.set_cons_zero, List.set_cons_succ]
      refine wpT_one (i := 11) rfl (by kernel_rfl) fun K hK => ?_
      go_simp
      refine hK.out _ _ (fun h => absurd h (by decide)) ?_
      clear hK K
      try simp only [List.getElem_toArray, List.getElem_cons_succ, List.getElem_cons_zero, Act.put, List.setIfInBounds_toArray, List.set_cons_zero, List.set_cons_succ]
      refine wpT_done (by kernel_rfl) ?_
      have hown := own_set (p := ⟨G, 6, none⟩) HK1.out (show G < w.heap.size + 1 by omega) (.slice (some ⟨g, 0, none⟩) (ks.length + 1) cx)
      have GB14 := GB13.put6 (.slice (some ⟨g, 0, none⟩) (ks.length + 1) cx)
      have PB14 := PB13.far (p := ⟨G, 6, none⟩) hPG (.slice (some ⟨g, 0, none⟩) (ks.length + 1) cx)
      have R14 := R13.far (a := ⟨G, 6, none⟩) hbG (.slice (some ⟨g, 0, none⟩) (ks.length + 1) cx)
      have T14 := T13.set (a := ⟨G, 6, none⟩) (Or.inl rfl) (.slice (some ⟨g, 0, none⟩) (ks.length + 1) cx)
      generalize w13.setCell ⟨G, 6, none⟩ (.slice (some ⟨g, 0, none⟩) (ks.length + 1) cx) = w14 at rows15 hown GB14 PB14 R14 T14 ⊢
      clear R13 T13 PB13 GB13 z0 z1 z2 z3 z4 z5 z6 z7 z8 HK1
      have hyc : ∀ i v, i < 7 → ([.int .i64 0, .string ⟨#[]⟩, .string ⟨#[]⟩, .int .i64 0, .string ⟨#[]⟩, .slice none 0 0, .slice none 0 0] : List Value)[i]? = some v → w14.cell? ⟨g, ks.length * 7 + i, none⟩ = some v := fun i v hi hv => by
        rw [hown.cellAt (ks.length * 7 + i) (by omega), List.getElem?_append_right (by omega), hx7]
        simpa using hv
      have y0 := hyc 0 _ (by decide) rfl
      have y1 := hyc 1 _ (by decide) rfl
      have y2 := hyc 2 _ (by decide) rfl
      have y3 := hyc 3 _ (by decide) rfl
      have y4 := hyc 4 _ (by decide) rfl
      have y5 := hyc 5 _ (by decide) rfl
      have y6 := hyc 6 _ (by decide) rfl
      have y7 := fun j => hown.frozenAt j
      simp only [Nat.add_zero] at y0
      clear hyc hown
      go_wp2_with fail
      obtain ⟨f1, f2, f3, f4, f5, f6⟩ := put7_facts w14 g (ks.length * 7) (.int .i64 u.kind) (.string ⟨u.frm.toArray⟩) (.string ⟨u.rcv.toArray⟩) (.int .i64 u.sort) (.string ⟨u.name.toArray⟩) (.slice A1 u.labels.length c1) (.slice A2 u.kids.length c2)
      have GB15 := f1 GB14 (by omega)
      have R15 := f2 R14 (by omega)
      have T15 := f5 T14 (by omega)
      have PB15 := f6 PB14 (by omega)
      clear f1 f2 f3 f4 f5 f6
      generalize (((((((w14.setCell ⟨g, ks.length * 7, none⟩ (.int .i64 u.kind)).setCell ⟨g, ks.length * 7 + 1, none⟩ (.string ⟨u.frm.toArray⟩)).setCell ⟨g, ks.length * 7 + 2, none⟩ (.string ⟨u.rcv.toArray⟩)).setCell ⟨g, ks.length * 7 + 3, none⟩ (.int .i64 u.sort)).setCell ⟨g, ks.length * 7 + 4, none⟩ (.string ⟨u.name.toArray⟩)).setCell ⟨g, ks.length * 7 + 5, none⟩ (.slice A1 u.labels.length c1)).setCell ⟨g, ks.length * 7 + 6, none⟩ (.slice A2 u.kids.length c2)) = w15 at GB15 R15 T15 PB15 rows15 ⊢
      clear y0 y1 y2 y3 y4 y5 y6 y7 GB14 R14 T14 PB14
      rotate_left
    all_goals
      refine (gis_any l b p3 44 w15 hl ht2 R15).mono ?_
      rintro e w16 ⟨rfl, hg, R16⟩
      have T16 := T15.step hg
      have PB16 := PB15.grown' hg (by omega)
      have GB16 := GB15.grown' hg hbG
      have rows16 := rows15.at hg (by omega)
      clear R15 T15 PB15 GB15 rows15 hg
      have hs3 := sk_le ht2
      generalize sk l p3 = q4 at hs3 R16 HR5 ⊢
      by_cases h44 : l[q4]? = some 44
      · rw [decide_eq_true h44]
        have HR6 : Hid (gdChoice l (gdOne l n) g' (q4 + 1) (ls ++ [W]) (ks ++ [u]) = RES) := Lib.hid (by rw [← HR5.out, if_pos h44])
        have hlt4 := at_lt h44
        clear HR5 h44
        have R17 := R16.set (q4 + 1)
        have e4 : ((q4 + 1 : Nat) : Int) = (q4 : Int) + 1 := by omega
        rw [e4] at R17
        have T17 := T16.set (a := ⟨b, 1, none⟩) (Or.inr (Or.inl rfl)) (.int .i64 ((q4 : Int) + 1))
        have PB17 := PB16.far (p := ⟨b, 1, none⟩) hPb (.int .i64 ((q4 : Int) + 1))
        have GB17 := GB16.far (p := ⟨b, 1, none⟩) hGb (.int .i64 ((q4 : Int) + 1))
        have rows17 := rows16.set (a := ⟨b, 1, none⟩) (show b < w.heap.size + 1 by omega) (.int .i64 ((q4 : Int) + 1))
        obtain ⟨r0, r1, r2, r3⟩ := id R16
        go_wp2_with fail
        generalize w16.setCell ⟨b, 1, none⟩ (.int .i64 ((q4 : Int) + 1)) = w17 at R17 T17 PB17 GB17 rows17 ⊢
        go_roundg g'
        case measure => omega
        case rel => exact ⟨q4 + 1, ls ++ [W], ks ++ [u], _, _, _, by omega, by omega, by rw [List.length_append, List.length_singleton]; omega, by rw [List.length_append, List.length_singleton]; omega, by rw [List.length_append, List.length_append, HLEN.out]; rfl, HR6, R17, T17, PB17, GB17, rows17⟩
      · rw [decide_eq_false h44]
        have HR6 : Hid (((rdSign l 125 q4).seq fun _ p4 => .ok (ls ++ [W], ks ++ [u]) p4 : Rd (List Str × List Gl)) = RES) := Lib.hid (by rw [← HR5.out, if_neg h44])
        clear HR5 h44
        go_wp2_with fail
        by_cases h125 : l[sk l q4]? = some 125
        · have e1 : Rd.ok (ls ++ [W], ks ++ [u]) (sk l q4 + 1) = RES := by rw [← HR6.out, sign_seq_ok h125]
          refine (gsign_ok l b q4 125 w16 hl hs3.2 R16 h125).mono ?_
          rintro e w17 ⟨rfl, hg, R17⟩
          have T17 := T16.step hg
          have PB17 := PB16.grown' hg (by omega)
          have GB17 := GB16.grown' hg hbG
          have rows17 := rows16.at hg (by omega)
          go_wp2_with fail
          go_end0
          refine ⟨T17, ?_⟩
          rw [← e1]
          exact ⟨_, _, rfl, R17, GB17, rows17.strs (fun k hk => by omega), rows17.gls (fun k hk => by omega)⟩
        · have e1 : Rd.bad (sk l q4) = RES := by rw [← HR6.out, sign_seq_bad h125]
          refine (gsign_bad l b q4 125 w16 hl hs3.2 R16 h125).mono ?_
          rintro e w17 ⟨rfl, hg⟩
          exact ⟨rfl, T16.step hg, by rw [← e1]⟩
end
end Go.Proofs.YtcacembpegoghaaDoor
