/-
  Renaming roles: the program's renamed.
-/
import Derived.Test.YtgnkncfnkjeinaaDoorM15
namespace Go.Proofs.YtgnkncfnkjeinaaDoor
open Go.RowKit Go.Proofs
set_option maxRecDepth 100000

set_option maxHeartbeats 16000000 in
theorem renamed_any (F T : List Str) (hl : F.length = T.length) (h8 : F.length ≤ 9223372036854775807) (B : Nat) : ∀ (m : Nat) (t : Gl) (v fv tv : Value) (w : World), gparts t ≤ m → GGood t → B ≤ w.heap.size → GlV (· < B) w v t → StrsD (· < B) w fv F → StrsD (· < B) w tv T → ASays 69 F T B t v fv tv w := by
  intro m
  induction m with
  | zero => intro t v fv tv w h; cases t; simp only [gparts] at h; omega
  | succ m ih =>
  intro t v fv tv w hm hg hBw hv hFv hTv
  obtain ⟨k, f, o, s, n, ls, ks⟩ := t
  have hsm := hg.gsh.small
  have hkids := hg.kid
  simp only [Gl.kind, Gl.frm, Gl.rcv, Gl.sort, Gl.name, Gl.labels, Gl.kids] at hsm hkids
  simp only [gparts] at hm
  have HKS : Hid (∀ c ∈ ks, gparts c ≤ m ∧ GGood c) := Lib.hid fun c hc => by
    have := gparts_at hc
    exact ⟨by omega, hkids c hc⟩
  obtain ⟨-, -, -, hl6, -, hk6⟩ := hsm
  clear hg hkids
  obtain ⟨lv, kv, rfl, hs1, hs2⟩ := hv
  simp only [Gl.kind, Gl.frm, Gl.rcv, Gl.sort, Gl.name, Gl.labels, Gl.kids] at hs1 hs2 ⊢
  have HL := Lib.hid hs1
  obtain ⟨A0, p0, rfl, -, -⟩ := hs1
  have HK := Lib.hid hs2
  obtain ⟨A, cap, rfl, -, -⟩ := hs2
  have HF := Lib.hid hFv
  have HT := Lib.hid hTv
  obtain ⟨AF, cF, rfl, -, -⟩ := hFv
  obtain ⟨AT, cT, rfl, -, -⟩ := hTv
  obtain ⟨L, hL⟩ : ∃ x, F.length = x := ⟨_, rfl⟩
  have HL1 := Lib.hid hL
  have HL2 : Hid (T.length = L) := Lib.hid (hl.symm.trans hL)
  rw [HL2.out] at HT ⊢
  rw [hL] at HF ⊢
  have hL8 : L ≤ 9223372036854775807 := by omega
  clear hL
  unfold ASays
  have hans : rnG F T (.mk k f o s n ls ks) = .mk k (rnm F T f) (rnm F T o) s n ls (rnGs F T ks) := by simp only [rnG]
  rw [hans]
  clear hans
  have hmf : ∀ (fn : Fn) (first cap : Array Value) (w : World), (Instr.makeFunc fn first cap).run Tryd.prog w = .ok (.func fn first cap) w := fun _ _ _ _ => rfl
  obtain ⟨f2, hf2⟩ : ∃ x, rnm F T f = x := ⟨_, rfl⟩
  obtain ⟨o2, ho2⟩ : ∃ x, rnm F T o = x := ⟨_, rfl⟩
  have HF2 := Lib.hid hf2
  have HO2 := Lib.hid ho2
  clear hf2 ho2
  have HHL := Lib.hid hl; have HH8 := Lib.hid h8
  clear hl h8
  go_enter Tryd.func69, Tryd.ntmps69
  go_wp2_with fail
  obtain ⟨W, hW⟩ : ∃ W, (((w.alloc (.cells #[.int .i64 k, .string ⟨f.toArray⟩, .string ⟨o.toArray⟩, .int .i64 s, .string ⟨n.toArray⟩, .slice A0 ls.length p0, .slice A ks.length cap] 52)).alloc (.cells #[.slice AF L cF] 22)).alloc (.cells #[.slice AT L cT] 22)).alloc (.cells #[.int .i64 0, .string ⟨#[]⟩, .string ⟨#[]⟩, .int .i64 0, .string ⟨#[]⟩, .slice none 0 0, .slice none 0 0] 52) = W := ⟨_, rfl⟩
  have hbW : Below w.heap.size w W := by subst hW; go_grown
  have hWs : W.heap.size = w.heap.size + 4 := by subst hW; simp
  have GT : GBox W w.heap.size (.mk k f o s n ls ks) (.slice A0 ls.length p0) (.slice A ks.length cap) := by subst hW; exact ⟨by simp [go_sem]; rfl, by simp [go_sem]; rfl, by simp [go_sem]; rfl, by simp [go_sem]; rfl, by simp [go_sem]; rfl, by simp [go_sem], by simp [go_sem], fun j => by simp [go_sem], by simp <;> omega⟩
  have BF : W.cell? ⟨w.heap.size + 1, 0, none⟩ = some (.slice AF L cF) := by subst hW; simp [go_sem]
  have BT : W.cell? ⟨w.heap.size + 1 + 1, 0, none⟩ = some (.slice AT L cT) := by subst hW; simp [go_sem]
  have GZ : GBox W (w.heap.size + 1 + 1 + 1) zeroGl (.slice none 0 0) (.slice none 0 0) := by subst hW; exact ⟨by simp [go_sem]; rfl, by simp [go_sem]; rfl, by simp [go_sem]; rfl, by simp [go_sem]; rfl, by simp [go_sem]; rfl, by simp [go_sem], by simp [go_sem], fun j => by simp [go_sem], by simp <;> omega⟩
  try rw [hW]
  clear hW
  replace HL := Lib.hid (HL.out.below hbW)
  replace HK := Lib.hid (HK.out.below hbW)
  replace HF := Lib.hid (HF.out.below hbW)
  replace HT := Lib.hid (HT.out.below hbW)
  have HSm : Hid (∀ (D : Blocks), (∀ b, D b → b < B) → ∀ w' : World, Below (w.heap.size + 4) W w' → Same D W w') := Lib.hid (fun D hD w' h b hb _ => h.block b (by have := hD b hb; omega))
  have HNM : Hid (∀ (z : Str) (w' : World), Below (w.heap.size + 4) W w' → Calls Tryd.prog 102 #[.string ⟨z.toArray⟩, .pointer (some ⟨w.heap.size + 1, 0, none⟩), .pointer (some ⟨w.heap.size + 1 + 1, 0, none⟩)] w' fun e w'' => e = .returned (.string ⟨(rnm F T z).toArray⟩) ∧ Below w'.heap.size w' w'') := Lib.hid (fun z w' h => name_any F T z (.slice AF L cF) (.slice AT L cT) (w.heap.size + 1) (w.heap.size + 1 + 1) w' HHL.out (by have := HH8.out; omega) ((h.cell (p := ⟨w.heap.size + 1, 0, none⟩) (by show w.heap.size + 1 < _; omega)).trans BF) ((h.cell (p := ⟨w.heap.size + 1 + 1, 0, none⟩) (by show w.heap.size + 1 + 1 < _; omega)).trans BT) (HF.out.keep (HSm.out _ (fun _ h => h) w' h) (fun _ h _ => h)).is (HT.out.keep (HSm.out _ (fun _ h => h) w' h) (fun _ h _ => h)).is)
  have HCL : Hid (∀ w' : World, Below (w.heap.size + 4) W w' → Calls Tryd.prog 67 #[.slice A0 ls.length p0] w' fun e w'' => ∃ v', e = .returned v' ∧ w''.ownsRow w'.heap.size 9 1 v' ls.length (ls.map fun s => .string ⟨s.toArray⟩) ∧ Below w'.heap.size w' w'') := Lib.hid (fun w' h => clone_own (HL.out.keep (HSm.out _ (fun _ h => h) w' h) (fun _ h _ => h)) (by omega))
  have HSB : Hid (∀ w' : World, Below (w.heap.size + 4) W w' → (fun w' : World => w'.cell? ⟨w.heap.size, 0, none⟩ = some (.int .i64 k) ∧ w'.cell? ⟨w.heap.size, 1, none⟩ = some (.string ⟨f.toArray⟩) ∧ w'.cell? ⟨w.heap.size, 2, none⟩ = some (.string ⟨o.toArray⟩) ∧ w'.cell? ⟨w.heap.size, 3, none⟩ = some (.int .i64 s) ∧ w'.cell? ⟨w.heap.size, 4, none⟩ = some (.string ⟨n.toArray⟩) ∧ w'.cell? ⟨w.heap.size, 5, none⟩ = some (.slice A0 ls.length p0)) w') := Lib.hid (fun w' h => by have := GT.keep h (by omega); exact ⟨this.c0, this.c1, this.c2, this.c3, this.c4, this.c5⟩)
  have hb0 : Below (w.heap.size + 4) W W.drew := (Below.refl _ _).drew
  have hs0 : w.heap.size + 4 ≤ W.drew.heap.size := by show _ ≤ W.heap.size; omega
  refine wp_region_T 19 (fun w' : World => w'.cell? ⟨w.heap.size, 0, none⟩ = some (.int .i64 k) ∧ w'.cell? ⟨w.heap.size, 1, none⟩ = some (.string ⟨f.toArray⟩) ∧ w'.cell? ⟨w.heap.size, 2, none⟩ = some (.string ⟨o.toArray⟩) ∧ w'.cell? ⟨w.heap.size, 3, none⟩ = some (.int .i64 s) ∧ w'.cell? ⟨w.heap.size, 4, none⟩ = some (.string ⟨n.toArray⟩) ∧ w'.cell? ⟨w.heap.size, 5, none⟩ = some (.slice A0 ls.length p0)) (by kernel_rfl) ?_
  generalize W.drew = w0 at hb0 hs0 ⊢
  refine wpT_take (i := 0) (v := ?_) rfl (by kernel_rfl) (by kernel_rfl) (by kernel_rfl) (by kernel_rfl) (fun _ _ _ h => h) (Or.inl ⟨by rfl, ?_⟩) (HSB.out _ hb0) ?_
  rotate_left
  · (intro wq hSw; obtain ⟨q0, q1, q2, q3, q4, q5⟩ := hSw; go_simp; all_goals (first | (with_reducible rfl) | (rw [if_neg (by first | omega | (simp; omega) | (simp only [List.length_append, List.length_cons, List.length_nil]; omega))])))
  simp only [List.getElem_toArray, List.getElem_cons_succ, List.getElem_cons_zero, Act.put, List.setIfInBounds_toArray, List.set_cons_zero, List.set_cons_succ]
  refine wpT_take (i := 1) (v := ?_) rfl (by kernel_rfl) (by kernel_rfl) (by kernel_rfl) (by kernel_rfl) (fun _ _ _ h => h) (Or.inl ⟨by rfl, ?_⟩) (HSB.out _ hb0) ?_
  rotate_left
  · (intro wq hSw; obtain ⟨q0, q1, q2, q3, q4, q5⟩ := hSw; go_simp; all_goals (first | (with_reducible rfl) | (rw [if_neg (by first | omega | (simp; omega) | (simp only [List.length_append, List.length_cons, List.length_nil]; omega))])))
  simp only [List.getElem_toArray, List.getElem_cons_succ, List.getElem_cons_zero, Act.put, List.setIfInBounds_toArray, List.set_cons_zero, List.set_cons_succ]
  refine wpT_take (i := 2) (v := ?_) rfl (by kernel_rfl) (by kernel_rfl) (by kernel_rfl) (by kernel_rfl) (fun _ _ _ h => h) (Or.inl ⟨by rfl, ?_⟩) (HSB.out _ hb0) ?_
  rotate_left
  · (intro wq hSw; obtain ⟨q0, q1, q2, q3, q4, q5⟩ := hSw; go_simp; all_goals (first | (with_reducible rfl) | (rw [if_neg (by first | omega | (simp; omega) | (simp only [List.length_append, List.length_cons, List.length_nil]; omega))])))
  simp only [List.getElem_toArray, List.getElem_cons_succ, List.getElem_cons_zero, Act.put, List.setIfInBounds_toArray, List.set_cons_zero, List.set_cons_succ]
  refine wpT_take (i := 3) (v := ?_) rfl (by kernel_rfl) (by kernel_rfl) (by kernel_rfl) (by kernel_rfl) (fun _ _ _ h => h) (Or.inl ⟨by rfl, ?_⟩) (HSB.out _ hb0) ?_
  rotate_left
  · (intro wq hSw; obtain ⟨q0, q1, q2, q3, q4, q5⟩ := hSw; go_simp; all_goals (first | (with_reducible rfl) | (rw [if_neg (by first | omega | (simp; omega) | (simp only [List.length_append, List.length_cons, List.length_nil]; omega))])))
  simp only [List.getElem_toArray, List.getElem_cons_succ, List.getElem_cons_zero, Act.put, List.setIfInBounds_toArray, List.set_cons_zero, List.set_cons_succ]
  refine wpT_take (i := 4) (v := ?_) rfl (by kernel_rfl) (by kernel_rfl) (by kernel_rfl) (by kernel_rfl) (fun _ _ _ h => h) (Or.inl ⟨by rfl, ?_⟩) (HSB.out _ hb0) ?_
  rotate_left
  · (intro wq hSw; obtain ⟨q0, q1, q2, q3, q4, q5⟩ := hSw; go_simp; all_goals (first | (with_reducible rfl) | (rw [if_neg (by first | omega | (simp; omega) | (simp only [List.length_append, List.length_cons, List.length_nil]; omega))])))
  simp only [List.getElem_toArray, List.getElem_cons_succ, List.getElem_cons_zero, Act.put, List.setIfInBounds_toArray, List.set_cons_zero, List.set_cons_succ]
  refine wpT_take (i := 6) (v := ?_) rfl (by kernel_rfl) (by kernel_rfl) (by kernel_rfl) (by kernel_rfl) (fun _ _ _ h => h) (Or.inl ⟨by rfl, ?_⟩) (HSB.out _ hb0) ?_
  rotate_left
  · (intro wq hSw; obtain ⟨q0, q1, q2, q3, q4, q5⟩ := hSw; go_simp; all_goals (first | (with_reducible rfl) | (rw [if_neg (by first | omega | (simp; omega) | (simp only [List.length_append, List.length_cons, List.length_nil]; omega))])))
  simp only [List.getElem_toArray, List.getElem_cons_succ, List.getElem_cons_zero, Act.put, List.setIfInBounds_toArray, List.set_cons_zero, List.set_cons_succ]
  refine wpT_take (i := 7) (v := ?_) rfl (by kernel_rfl) (by kernel_rfl) (by kernel_rfl) (by kernel_rfl) (fun _ _ _ h => h) (Or.inl ⟨by rfl, ?_⟩) (HSB.out _ hb0) ?_
  rotate_left
  · (intro wq hSw; obtain ⟨q0, q1, q2, q3, q4, q5⟩ := hSw; go_simp; all_goals (first | (with_reducible rfl) | (rw [if_neg (by first | omega | (simp; omega) | (simp only [List.length_append, List.length_cons, List.length_nil]; omega))])))
  simp only [List.getElem_toArray, List.getElem_cons_succ, List.getElem_cons_zero, Act.put, List.setIfInBounds_toArray, List.set_cons_zero, List.set_cons_succ]
  refine wpT_take (i := 8) (v := ?_) rfl (by kernel_rfl) (by kernel_rfl) (by kernel_rfl) (by kernel_rfl) (fun _ _ _ h => h) (Or.inl ⟨by rfl, ?_⟩) (HSB.out _ hb0) ?_
  rotate_left
  · (intro wq hSw; obtain ⟨q0, q1, q2, q3, q4, q5⟩ := hSw; go_simp; all_goals (first | (with_reducible rfl) | (rw [if_neg (by first | omega | (simp; omega) | (simp only [List.length_append, List.length_cons, List.length_nil]; omega))])))
  simp only [List.getElem_toArray, List.getElem_cons_succ, List.getElem_cons_zero, Act.put, List.setIfInBounds_toArray, List.set_cons_zero, List.set_cons_succ]
  refine wpT_take (i := 10) (v := ?_) rfl (by kernel_rfl) (by kernel_rfl) (by kernel_rfl) (by kernel_rfl) (fun _ _ _ h => h) (Or.inl ⟨by rfl, ?_⟩) (HSB.out _ hb0) ?_
  rotate_left
  · (intro wq hSw; obtain ⟨q0, q1, q2, q3, q4, q5⟩ := hSw; go_simp; all_goals (first | (with_reducible rfl) | (rw [if_neg (by first | omega | (simp; omega) | (simp only [List.length_append, List.length_cons, List.length_nil]; omega))])))
  simp only [List.getElem_toArray, List.getElem_cons_succ, List.getElem_cons_zero, Act.put, List.setIfInBounds_toArray, List.set_cons_zero, List.set_cons_succ]
  refine wpT_take (i := 11) (v := ?_) rfl (by kernel_rfl) (by kernel_rfl) (by kernel_rfl) (by kernel_rfl) (fun _ _ _ h => h) (Or.inl ⟨by rfl, ?_⟩) (HSB.out _ hb0) ?_
  rotate_left
  · (intro wq hSw; obtain ⟨q0, q1, q2, q3, q4, q5⟩ := hSw; go_simp; all_goals (first | (with_reducible rfl) | (rw [if_neg (by first | omega | (simp; omega) | (simp only [List.length_append, List.length_cons, List.length_nil]; omega))])))
  simp only [List.getElem_toArray, List.getElem_cons_succ, List.getElem_cons_zero, Act.put, List.setIfInBounds_toArray, List.set_cons_zero, List.set_cons_succ]
  refine wpT_take (i := 12) (v := ?_) rfl (by kernel_rfl) (by kernel_rfl) (by kernel_rfl) (by kernel_rfl) (fun _ _ _ h => h) (Or.inl ⟨by rfl, ?_⟩) (HSB.out _ hb0) ?_
  rotate_left
  · (intro wq hSw; obtain ⟨q0, q1, q2, q3, q4, q5⟩ := hSw; go_simp; all_goals (first | (with_reducible rfl) | (rw [if_neg (by first | omega | (simp; omega) | (simp only [List.length_append, List.length_cons, List.length_nil]; omega))])))
  simp only [List.getElem_toArray, List.getElem_cons_succ, List.getElem_cons_zero, Act.put, List.setIfInBounds_toArray, List.set_cons_zero, List.set_cons_succ]
  refine wpT_take (i := 13) (v := ?_) rfl (by kernel_rfl) (by kernel_rfl) (by kernel_rfl) (by kernel_rfl) (fun _ _ _ h => h) (Or.inl ⟨by rfl, ?_⟩) (HSB.out _ hb0) ?_
  rotate_left
  · (intro wq hSw; obtain ⟨q0, q1, q2, q3, q4, q5⟩ := hSw; go_simp; all_goals (first | (with_reducible rfl) | (rw [if_neg (by first | omega | (simp; omega) | (simp only [List.length_append, List.length_cons, List.length_nil]; omega))])))
  simp only [List.getElem_toArray, List.getElem_cons_succ, List.getElem_cons_zero, Act.put, List.setIfInBounds_toArray, List.set_cons_zero, List.set_cons_succ]
  refine wpT_take (i := 14) (v := ?_) rfl (by kernel_rfl) (by kernel_rfl) (by kernel_rfl) (by kernel_rfl) (fun _ _ _ h => h) (Or.inl ⟨by rfl, ?_⟩) (HSB.out _ hb0) ?_
  rotate_left
  · (intro wq hSw; obtain ⟨q0, q1, q2, q3, q4, q5⟩ := hSw; go_simp; all_goals (first | (with_reducible rfl) | (rw [if_neg (by first | omega | (simp; omega) | (simp only [List.length_append, List.length_cons, List.length_nil]; omega))])))
  simp only [List.getElem_toArray, List.getElem_cons_succ, List.getElem_cons_zero, Act.put, List.setIfInBounds_toArray, List.set_cons_zero, List.set_cons_succ]
  refine wpT_take (i := 15) (v := ?_) rfl (by kernel_rfl) (by kernel_rfl) (by kernel_rfl) (by kernel_rfl) (fun _ _ _ h => h) (Or.inl ⟨by rfl, ?_⟩) (HSB.out _ hb0) ?_
  rotate_left
  · (intro wq hSw; obtain ⟨q0, q1, q2, q3, q4, q5⟩ := hSw; go_simp; all_goals (first | (with_reducible rfl) | (rw [if_neg (by first | omega | (simp; omega) | (simp only [List.length_append, List.length_cons, List.length_nil]; omega))])))
  simp only [List.getElem_toArray, List.getElem_cons_succ, List.getElem_cons_zero, Act.put, List.setIfInBounds_toArray, List.set_cons_zero, List.set_cons_succ]
  refine wpT_two (i := 5) (j := 18) rfl rfl (by kernel_rfl) (fun K hK => ?_) (fun K hK => ?_)
  · go_simp
    refine (HNM.out f w0 hb0).mono ?_
    rw [HF2.out]
    rintro e w1 ⟨rfl, hq⟩
    have hb1 := hb0.trans (hq.mono hs0)
    have hs1 := Nat.le_trans hs0 hq.size
    refine hK.out _ _ (fun _ => HSB.out _ hb1) ?_
    clear hK K hq
    try simp only [List.getElem_toArray, List.getElem_cons_succ, List.getElem_cons_zero, Act.put, List.setIfInBounds_toArray, List.set_cons_zero, List.set_cons_succ]
    refine wpT_two (i := 9) (j := 18) rfl rfl (by kernel_rfl) (fun K hK => ?_) (fun K hK => ?_)
    · go_simp
      refine (HNM.out o w1 hb1).mono ?_
      rw [HO2.out]
      rintro e w2 ⟨rfl, hq⟩
      have hb2 := hb1.trans (hq.mono hs1)
      have hs2 := Nat.le_trans hs1 hq.size
      refine hK.out _ _ (fun _ => HSB.out _ hb2) ?_
      clear hK K hq
      try simp only [List.getElem_toArray, List.getElem_cons_succ, List.getElem_cons_zero, Act.put, List.setIfInBounds_toArray, List.set_cons_zero, List.set_cons_succ]
      refine wpT_two (i := 16) (j := 18) rfl rfl (by kernel_rfl) (fun K hK => ?_) (fun K hK => ?_)
      · go_simp
        refine (HCL.out w2 hb2).mono ?_
        rintro e w3 ⟨vl, rfl, hown, hq⟩
        have hb3 := hb2.trans (hq.mono hs2)
        have hs3 := Nat.le_trans hs2 hq.size
        obtain ⟨Al, cl, rfl⟩ := own_form hown
        have LB3 : StrsD (fun k => w.heap.size + 3 < k ∧ k < w3.heap.size) w3 (.slice Al ls.length cl) ls := (own_strsD (D := fun k => w.heap.size + 3 < k) hown (fun k hk => by show _ < _; omega)).keep (Same.refl _ _) (fun k hk hlk => ⟨hk, hlk⟩)
        refine hK.out _ _ (fun _ => HSB.out _ hb3) ?_
        clear hK K hq hown
        try simp only [List.getElem_toArray, List.getElem_cons_succ, List.getElem_cons_zero, Act.put, List.setIfInBounds_toArray, List.set_cons_zero, List.set_cons_succ]
        refine wpT_take (i := 17) (v := ?_) rfl (by kernel_rfl) (by kernel_rfl) (by kernel_rfl) (by kernel_rfl) (fun _ _ _ h => h) (Or.inl ⟨by rfl, ?_⟩) (HSB.out _ hb3) ?_
        rotate_left
        · (intro wq hSw; obtain ⟨q0, q1, q2, q3, q4, q5⟩ := hSw; go_simp; all_goals (first | (with_reducible rfl) | (rw [if_neg (by first | omega | (simp; omega) | (simp only [List.length_append, List.length_cons, List.length_nil]; omega))])))
        simp only [List.getElem_toArray, List.getElem_cons_succ, List.getElem_cons_zero, Act.put, List.setIfInBounds_toArray, List.set_cons_zero, List.set_cons_succ]
        refine wpT_one (i := 18) rfl (by kernel_rfl) fun K hK => ?_
        go_simp
        have hq : Below w3.heap.size w3 (w3.alloc (.cells #[.int .i64 0, .string ⟨#[]⟩, .string ⟨#[]⟩, .int .i64 0, .string ⟨#[]⟩, .slice none 0 0, .slice none 0 0] 52)) := (Below.refl _ _).alloc (Nat.le_refl _) _
        have GB4 := new_gbox w3 52
        have hb4 := hb3.trans (hq.mono hs3)
        have hs4 := Nat.le_trans hs3 hq.size
        obtain ⟨G, hG⟩ : ∃ x, w3.heap.size = x := ⟨_, rfl⟩
        have hMG : w.heap.size + 3 < G := by omega
        have LB4 : StrsD (fun k => w.heap.size + 3 < k ∧ k ≠ G) _ (.slice Al ls.length cl) ls := LB3.keep (Same.below hq) (fun k hk hlk => ⟨hk.1, by have := hk.2; omega⟩)
        rw [hG] at GB4 ⊢
        generalize w3.alloc (.cells #[.int .i64 0, .string ⟨#[]⟩, .string ⟨#[]⟩, .int .i64 0, .string ⟨#[]⟩, .slice none 0 0, .slice none 0 0] 52) = w4 at GB4 hb4 hs4 LB4 hq ⊢
        refine hK.out _ _ (fun _ => HSB.out _ hb4) ?_
        clear hK K hq hG
        try simp only [List.getElem_toArray, List.getElem_cons_succ, List.getElem_cons_zero, Act.put, List.setIfInBounds_toArray, List.set_cons_zero, List.set_cons_succ]
        obtain ⟨z0, z1, z2, z3, z4, z5, z6, z7, z8⟩ := id GB4
        simp only [Gl.kind, Gl.frm, Gl.rcv, Gl.sort, Gl.name, zeroGl] at z0 z1 z2 z3 z4
        refine wpT_one (i := 19) rfl (by kernel_rfl) fun K hK => ?_
        go_simp
        refine hK.out _ _ (fun h => absurd h (by decide)) ?_
        clear hK K
        try simp only [List.getElem_toArray, List.getElem_cons_succ, List.getElem_cons_zero, Act.put, List.setIfInBounds_toArray, List.set_cons_zero, List.set_cons_succ]
        refine wpT_done (by kernel_rfl) ?_
        have GB := GB4.fill (.mk k f2 o2 s n [] []) (.slice Al ls.length cl) (.slice none 0 0)
        have hbR := below_fill7 hb4 (b := G) (by omega) (.int .i64 k) (.string ⟨f2.toArray⟩) (.string ⟨o2.toArray⟩) (.int .i64 s) (.string ⟨n.toArray⟩) (.slice Al ls.length cl) (.slice none 0 0)
        have hLR := LB4.keep (D' := fun k => w.heap.size + 3 < k ∧ k ≠ G) (Same.fill7 (b := G) (fun h => h.2 rfl) (.int .i64 k) (.string ⟨f2.toArray⟩) (.string ⟨o2.toArray⟩) (.int .i64 s) (.string ⟨n.toArray⟩) (.slice Al ls.length cl) (.slice none 0 0)) (fun _ h _ => h)
        simp only [Gl.kind, Gl.frm, Gl.rcv, Gl.sort, Gl.name] at GB
        generalize (((((((w4.setCell ⟨G, 0, none⟩ (.int .i64 k)).setCell ⟨G, 1, none⟩ (.string ⟨f2.toArray⟩)).setCell ⟨G, 2, none⟩ (.string ⟨o2.toArray⟩)).setCell ⟨G, 3, none⟩ (.int .i64 s)).setCell ⟨G, 4, none⟩ (.string ⟨n.toArray⟩)).setCell ⟨G, 5, none⟩ (.slice Al ls.length cl)).setCell ⟨G, 6, none⟩ (.slice none 0 0)) = wr at GB hbR hLR ⊢
        clear z0 z1 z2 z3 z4 z5 z6 z7 z8
        have hGsz := GB.lt
        have hb00 : Below w.heap.size w wr := hbW.trans (hbR.mono (by omega))
        have GT2 := GT.keep hbR (by omega)
        have GZ2 := GZ.keep hbR (by omega)
        have X1 := (hbR.cell (p := ⟨w.heap.size + 1, 0, none⟩) (by show w.heap.size + 1 < _; omega)).trans BF
        have X2 := (hbR.cell (p := ⟨w.heap.size + 1 + 1, 0, none⟩) (by show w.heap.size + 1 + 1 < _; omega)).trans BT
        have HK2 := Lib.hid (HK.out.keep (HSm.out _ (fun _ h => h) wr hbR) (fun _ h _ => h))
        have HF3 := Lib.hid (HF.out.keep (HSm.out _ (fun _ h => h) wr hbR) (fun _ h _ => h))
        have HT3 := Lib.hid (HT.out.keep (HSm.out _ (fun _ h => h) wr hbR) (fun _ h _ => h))
        obtain ⟨NN, hNN⟩ : ∃ x, wr.heap.size = x := ⟨_, rfl⟩
        have KR0 : KRow wr (fun k => k < B ∨ (w.heap.size + 3 < k ∧ k ≠ G)) NN (.slice Al ls.length cl) (.slice none 0 0) ls [] [] := ⟨World.ownsRow_nil _ _ _ _, .nil, hLR.keep (Same.refl _ _) (fun k hk _ => ⟨.inr hk, fun e => by cases e⟩)⟩
        have x6 := GT2.c6
        clear hbR hLR GT GZ BF BT HK HF HT HSm HNM HCL HSB HL hbW hWs
        go_wp2_with fail
        obtain ⟨w2, rfl⟩ : ∃ x, x = wr := ⟨_, rfl⟩
        clear x6
        go_loopw [33] (fun i wr => ∃ (j : Nat) (kvq : Value) (xs : List Value), j ≤ ks.length ∧ i = .int .i64 j ∧ GBox wr G (.mk k f2 o2 s n [] []) (.slice Al ls.length cl) kvq ∧ KRow wr (fun k => k < B ∨ (w.heap.size + 3 < k ∧ k ≠ G)) NN (.slice Al ls.length cl) kvq ls (rnGs F T (ks.take j)) xs ∧ Below G w2 wr ∧ NN ≤ wr.heap.size) (fun i _ => ks.length - (intOf i).toNat)
        case atStart => exact ⟨0, _, [], by omega, rfl, GB, KR0, Below.refl _ _, by omega⟩
        case round =>
          obtain ⟨j, kvq, xs, hj, rfl, GBq, KRq, hbN, hsN2⟩ := hrel
          obtain ⟨RQ, hRQ⟩ : ∃ x, rnGs F T (ks.take j) = x := ⟨_, rfl⟩
          have hrq : RQ.length ≤ 6 := by rw [← hRQ, rnGs_length, List.length_take]; omega
          rw [hRQ] at KRq
          have HRQ := Lib.hid hRQ
          clear hRQ
          obtain ⟨Ak, ck, rfl⟩ := own_form KRq.kids
          by_cases hlt : j < ks.length
          · obtain ⟨c, hc⟩ : ∃ x, ks[j]? = some x := ⟨_, List.getElem?_eq_getElem hlt⟩
            have HC := Lib.hid hc
            obtain ⟨-, -, b, off, A1, n1, p1, A2, n2, p2, rfl, hbB, c0, c1, c2, c3, c4, c5, c6, hl', hk'⟩ := gkid_at HK2.out hc
            have HL' := Lib.hid hl'; have HK' := Lib.hid hk'; clear hl' hk' hc
            have hbB' : b < B := hbB
            replace c0 := (hbN.cell (p := ⟨b, off + j * 7, none⟩) (by show b < _; omega)).trans c0
            replace c1 := (hbN.cell (p := ⟨b, off + j * 7 + 1, none⟩) (by show b < _; omega)).trans c1
            replace c2 := (hbN.cell (p := ⟨b, off + j * 7 + 2, none⟩) (by show b < _; omega)).trans c2
            replace c3 := (hbN.cell (p := ⟨b, off + j * 7 + 3, none⟩) (by show b < _; omega)).trans c3
            replace c4 := (hbN.cell (p := ⟨b, off + j * 7 + 4, none⟩) (by show b < _; omega)).trans c4
            replace c5 := (hbN.cell (p := ⟨b, off + j * 7 + 5, none⟩) (by show b < _; omega)).trans c5
            replace c6 := (hbN.cell (p := ⟨b, off + j * 7 + 6, none⟩) (by show b < _; omega)).trans c6
            have x1 := (hbN.cell (p := ⟨w.heap.size + 1, 0, none⟩) (by show w.heap.size + 1 < _; omega)).trans X1
            have x2 := (hbN.cell (p := ⟨w.heap.size + 1 + 1, 0, none⟩) (by show w.heap.size + 1 + 1 < _; omega)).trans X2
            obtain ⟨wa, hwa⟩ : ∃ y, wr.alloc (.cells #[.int .i64 c.kind, .string ⟨c.frm.toArray⟩, .string ⟨c.rcv.toArray⟩, .int .i64 c.sort, .string ⟨c.name.toArray⟩, .slice A1 n1 p1, .slice A2 n2 p2] 52) = y := ⟨_, rfl⟩
            have hba : Below wr.heap.size wr wa := by subst hwa; exact (Below.refl _ _).alloc (Nat.le_refl _) _
            have hsa : wa.heap.size = wr.heap.size + 1 := by subst hwa; simp
            have hkb : GBox wa wr.heap.size c (.slice A1 n1 p1) (.slice A2 n2 p2) := by subst hwa; exact new_gval wr c (.slice A1 n1 p1) (.slice A2 n2 p2) 52
            obtain ⟨k0, k1, k2, k3, k4, k5, k6, k7, k8⟩ := id hkb
            have hS : ∀ w' : World, Same (fun b => b < NN ∨ b = wr.heap.size) wa w' → (fun w' : World => w'.cell? ⟨G, 6, none⟩ = some (.slice Ak RQ.length ck) ∧ w'.cell? ⟨w.heap.size + 1, 0, none⟩ = some (.slice AF L cF) ∧ w'.cell? ⟨w.heap.size + 1 + 1, 0, none⟩ = some (.slice AT L cT) ∧ w'.cell? ⟨wr.heap.size, 0, none⟩ = some (.int .i64 c.kind) ∧ w'.cell? ⟨wr.heap.size, 1, none⟩ = some (.string ⟨c.frm.toArray⟩) ∧ w'.cell? ⟨wr.heap.size, 2, none⟩ = some (.string ⟨c.rcv.toArray⟩) ∧ w'.cell? ⟨wr.heap.size, 3, none⟩ = some (.int .i64 c.sort) ∧ w'.cell? ⟨wr.heap.size, 4, none⟩ = some (.string ⟨c.name.toArray⟩) ∧ w'.cell? ⟨wr.heap.size, 5, none⟩ = some (.slice A1 n1 p1) ∧ w'.cell? ⟨wr.heap.size, 6, none⟩ = some (.slice A2 n2 p2)) w' := fun w' h => ⟨h.cell (by first | (left; omega) | (right; rfl)) (GBq.keep hba (by omega)).c6, h.cell (by first | (left; omega) | (right; rfl)) (cell_keep x1 hba), h.cell (by first | (left; omega) | (right; rfl)) (cell_keep x2 hba), h.cell (by first | (left; omega) | (right; rfl)) k0, h.cell (by first | (left; omega) | (right; rfl)) k1, h.cell (by first | (left; omega) | (right; rfl)) k2, h.cell (by first | (left; omega) | (right; rfl)) k3, h.cell (by first | (left; omega) | (right; rfl)) k4, h.cell (by first | (left; omega) | (right; rfl)) k5, h.cell (by first | (left; omega) | (right; rfl)) k6⟩
            have HSd := Lib.hid (hS wa.drew (fun _ _ _ => rfl))
            have HSB := Lib.hid hS; clear hS
            have hne : ∀ q, q < NN ∨ q = wr.heap.size → some q ≠ (Value.slice Ak RQ.length ck).ownBlock := fun q hq e => by
              obtain ⟨h1, h2⟩ := KRq.kids.lt q e.symm
              omega
            obtain ⟨U, hU⟩ : ∃ x, rnG F T c = x := ⟨_, rfl⟩
            have e3 : Hid (rnGs F T (ks.take (j + 1)) = RQ ++ [U]) := Lib.hid (by rw [rnGs_take HC.out, HRQ.out, hU])
            have hbd : Below G w2 wa.drew := (hbN.trans (hba.mono (by omega))).drew
            have hSm : ∀ (D : Blocks), (∀ b, D b → b < B) → Same D w2 wa.drew := fun D hD b hb _ => hbd.block b (by have := hD b hb; omega)
            have hcm := HKS.out c (mem_of_at HC.out)
            have hcall := ih c (.agg #[.int .i64 c.kind, .string ⟨c.frm.toArray⟩, .string ⟨c.rcv.toArray⟩, .int .i64 c.sort, .string ⟨c.name.toArray⟩, .slice A1 n1 p1, .slice A2 n2 p2]) (.slice AF L cF) (.slice AT L cT) wa.drew hcm.1 hcm.2 (by show B ≤ wa.heap.size; omega) (glV_of (HL'.out.keep (hSm _ fun _ h => h) (fun _ h _ => h)) (HK'.out.keep (hSm _ fun _ h => h) (fun _ h _ => h))) (HF3.out.keep (hSm _ fun _ h => h) (fun _ h _ => h)) (HT3.out.keep (hSm _ fun _ h => h) (fun _ h _ => h))
            unfold ASays at hcall
            rw [hU] at hcall
            have HCL := Lib.hid hcall
            clear hcall hU hSm hbd
            have HD : Hid (∀ k, (k < B ∨ wa.heap.size ≤ k) → (fun k => k < B ∨ (w.heap.size + 3 < k ∧ k ≠ G)) k ∧ (Value.slice Ak RQ.length ck).ownBlock ≠ some k) := Lib.hid (fun k hk => ⟨by show _ ∨ _; omega, fun e => by have := KRq.kids.lt k e; omega⟩)
            go_wp2_with fail
            try rw [hwa]
            clear hwa
            refine wp_region_T 8 (fun w' : World => w'.cell? ⟨G, 6, none⟩ = some (.slice Ak RQ.length ck) ∧ w'.cell? ⟨w.heap.size + 1, 0, none⟩ = some (.slice AF L cF) ∧ w'.cell? ⟨w.heap.size + 1 + 1, 0, none⟩ = some (.slice AT L cT) ∧ w'.cell? ⟨wr.heap.size, 0, none⟩ = some (.int .i64 c.kind) ∧ w'.cell? ⟨wr.heap.size, 1, none⟩ = some (.string ⟨c.frm.toArray⟩) ∧ w'.cell? ⟨wr.heap.size, 2, none⟩ = some (.string ⟨c.rcv.toArray⟩) ∧ w'.cell? ⟨wr.heap.size, 3, none⟩ = some (.int .i64 c.sort) ∧ w'.cell? ⟨wr.heap.size, 4, none⟩ = some (.string ⟨c.name.toArray⟩) ∧ w'.cell? ⟨wr.heap.size, 5, none⟩ = some (.slice A1 n1 p1) ∧ w'.cell? ⟨wr.heap.size, 6, none⟩ = some (.slice A2 n2 p2)) (by kernel_rfl) ?_
            refine wpT_take (i := 0) (v := ?_) rfl (by kernel_rfl) (by kernel_rfl) (by kernel_rfl) (by kernel_rfl) (fun _ _ _ h => h) (Or.inl ⟨by rfl, ?_⟩) HSd.out ?_
            rotate_left
            · (intro wq hSw; obtain ⟨q0, q1, q2, q3, q4, q5, q6, q7, q8, q9⟩ := hSw; go_simp; all_goals (first | (with_reducible rfl) | (rw [if_neg (by first | omega | (simp; omega) | (simp only [List.length_append, List.length_cons, List.length_nil]; omega))])))
            simp only [List.getElem_toArray, List.getElem_cons_succ, List.getElem_cons_zero, Act.put, List.setIfInBounds_toArray, List.set_cons_zero, List.set_cons_succ]
            refine wpT_take (i := 1) (v := ?_) rfl (by kernel_rfl) (by kernel_rfl) (by kernel_rfl) (by kernel_rfl) (fun _ _ _ h => h) (Or.inl ⟨by rfl, ?_⟩) HSd.out ?_
            rotate_left
            · (intro wq hSw; obtain ⟨q0, q1, q2, q3, q4, q5, q6, q7, q8, q9⟩ := hSw; go_simp; all_goals (first | (with_reducible rfl) | (rw [if_neg (by first | omega | (simp; omega) | (simp only [List.length_append, List.length_cons, List.length_nil]; omega))])))
            simp only [List.getElem_toArray, List.getElem_cons_succ, List.getElem_cons_zero, Act.put, List.setIfInBounds_toArray, List.set_cons_zero, List.set_cons_succ]
            refine wpT_take (i := 2) (v := ?_) rfl (by kernel_rfl) (by kernel_rfl) (by kernel_rfl) (by kernel_rfl) (fun _ _ _ h => h) (Or.inl ⟨by rfl, ?_⟩) HSd.out ?_
            rotate_left
            · (intro wq hSw; obtain ⟨q0, q1, q2, q3, q4, q5, q6, q7, q8, q9⟩ := hSw; go_simp; all_goals (first | (with_reducible rfl) | (rw [if_neg (by first | omega | (simp; omega) | (simp only [List.length_append, List.length_cons, List.length_nil]; omega))])))
            simp only [List.getElem_toArray, List.getElem_cons_succ, List.getElem_cons_zero, Act.put, List.setIfInBounds_toArray, List.set_cons_zero, List.set_cons_succ]
            refine wpT_take (i := 3) (v := ?_) rfl (by kernel_rfl) (by kernel_rfl) (by kernel_rfl) (by kernel_rfl) (fun _ _ _ h => h) (Or.inl ⟨by rfl, ?_⟩) HSd.out ?_
            rotate_left
            · (intro wq hSw; obtain ⟨q0, q1, q2, q3, q4, q5, q6, q7, q8, q9⟩ := hSw; go_simp; all_goals (first | (with_reducible rfl) | (rw [if_neg (by first | omega | (simp; omega) | (simp only [List.length_append, List.length_cons, List.length_nil]; omega))])))
            simp only [List.getElem_toArray, List.getElem_cons_succ, List.getElem_cons_zero, Act.put, List.setIfInBounds_toArray, List.set_cons_zero, List.set_cons_succ]
            refine wpT_take (i := 4) (v := ?_) rfl (by kernel_rfl) (by kernel_rfl) (by kernel_rfl) (by kernel_rfl) (fun _ _ _ h => h) (Or.inl ⟨by rfl, ?_⟩) HSd.out ?_
            rotate_left
            · (intro wq hSw; obtain ⟨q0, q1, q2, q3, q4, q5, q6, q7, q8, q9⟩ := hSw; go_simp; all_goals (first | (with_reducible rfl) | (rw [if_neg (by first | omega | (simp; omega) | (simp only [List.length_append, List.length_cons, List.length_nil]; omega))])))
            simp only [List.getElem_toArray, List.getElem_cons_succ, List.getElem_cons_zero, Act.put, List.setIfInBounds_toArray, List.set_cons_zero, List.set_cons_succ]
            refine wpT_one (i := 5) rfl (by kernel_rfl) fun K hK => ?_
            go_simp
            refine HCL.out.mono ?_
            rintro e w1 ⟨hq1, v', rfl, hUV⟩
            have hba1 : Below wa.heap.size wa w1 := chain (Below.refl wa.heap.size wa).drew hq1
            have hb1 : Below wr.heap.size wr w1 := chain hba hba1
            have hs1 := hb1.size
            have hs2 := hba1.size
            obtain ⟨lv2, kv2, rfl, m1, m2⟩ := hUV
            have M1 := Lib.hid (m1.keep (D' := fun k => (fun k => k < B ∨ (w.heap.size + 3 < k ∧ k ≠ G)) k ∧ (Value.slice Ak RQ.length ck).ownBlock ≠ some k) (fun _ _ _ => rfl) (fun k hk _ => HD.out k hk))
            have M2 := Lib.hid (m2.keep (D' := fun k => (fun k => k < B ∨ (w.heap.size + 3 < k ∧ k ≠ G)) k ∧ (Value.slice Ak RQ.length ck).ownBlock ≠ some k) (fun _ _ _ => rfl) (fun k hk _ => HD.out k hk))
            obtain ⟨D1, e1, rfl, -, -⟩ := m1
            obtain ⟨D2, e2, rfl, -, -⟩ := m2
            clear hq1 HCL
            refine hK.out _ _ (fun _ => HSB.out _ (Same.below hba1)) ?_
            clear hK K
            try simp only [List.getElem_toArray, List.getElem_cons_succ, List.getElem_cons_zero, Act.put, List.setIfInBounds_toArray, List.set_cons_zero, List.set_cons_succ]
            refine wpT_one (i := 6) rfl (by kernel_rfl) fun K hK => ?_
            go_simp
            have hbn : Below w1.heap.size w1 (w1.alloc (.cells #[.int .i64 U.kind, .string ⟨U.frm.toArray⟩, .string ⟨U.rcv.toArray⟩, .int .i64 U.sort, .string ⟨U.name.toArray⟩, .slice D1 U.labels.length e1, .slice D2 U.kids.length e2] 52)) := (Below.refl _ _).alloc (Nat.le_refl _) _
            have hsA := Below.trans hba1 ((Below.refl _ w1).alloc hs2 (.cells #[.int .i64 U.kind, .string ⟨U.frm.toArray⟩, .string ⟨U.rcv.toArray⟩, .int .i64 U.sort, .string ⟨U.name.toArray⟩, .slice D1 U.labels.length e1, .slice D2 U.kids.length e2] 52))
            have hbA : Below NN wr (w1.alloc (.cells #[.int .i64 U.kind, .string ⟨U.frm.toArray⟩, .string ⟨U.rcv.toArray⟩, .int .i64 U.sort, .string ⟨U.name.toArray⟩, .slice D1 U.labels.length e1, .slice D2 U.kids.length e2] 52)) := (hb1.mono hsN2).alloc (by omega) _
            have HCC : Hid (Cells7 (fun k => (fun k => k < B ∨ (w.heap.size + 3 < k ∧ k ≠ G)) k ∧ (Value.slice Ak RQ.length ck).ownBlock ≠ some k) (w1.alloc (.cells #[.int .i64 U.kind, .string ⟨U.frm.toArray⟩, .string ⟨U.rcv.toArray⟩, .int .i64 U.sort, .string ⟨U.name.toArray⟩, .slice D1 U.labels.length e1, .slice D2 U.kids.length e2] 52)) [.int .i64 U.kind, .string ⟨U.frm.toArray⟩, .string ⟨U.rcv.toArray⟩, .int .i64 U.sort, .string ⟨U.name.toArray⟩, .slice D1 U.labels.length e1, .slice D2 U.kids.length e2] [U]) := Lib.hid (.cons U _ _ [] [] (M1.out.keep (Same.below hbn) (fun _ h _ => h)) (M2.out.keep (Same.below hbn) (fun _ h _ => h)) .nil)
            have KR2 := (KRq.below hb1).below hbn
            refine hK.out _ _ (fun _ => HSB.out _ (Same.below hsA)) ?_
            clear hK K M1 M2
            try simp only [List.getElem_toArray, List.getElem_cons_succ, List.getElem_cons_zero, Act.put, List.setIfInBounds_toArray, List.set_cons_zero, List.set_cons_succ]
            refine wpT_one (i := 7) rfl (by kernel_rfl) fun K hK => ?_
            refine step_app rt_gls rfl (.tmp 38) (.tmp 43) rfl NN (.slice Ak RQ.length ck) RQ.length xs rfl KR2.kids ⟨w1.heap.size, 0, none⟩ 1 1 [.int .i64 U.kind, .string ⟨U.frm.toArray⟩, .string ⟨U.rcv.toArray⟩, .int .i64 U.sort, .string ⟨U.name.toArray⟩, .slice D1 U.labels.length e1, .slice D2 U.kids.length e2] rfl rfl (seven_new _ _ _ _ _ _ _ _ _) (by simp [Value.oneCell']) (by unfold maxLen; omega) (by omega) (by rw [World.size_alloc]; omega) (fun v3 w3 n1' n2' n3' n4' => ?_)
            have KR3 := KR2.kid HCC.out n1' n2' n3'
            have hb3 : Below NN wr w3 := hbA.trans n4'
            obtain ⟨Aw, cw, rfl⟩ := own_form n1'
            refine hK.out _ _ (fun _ => HSB.out _ (Same.trans (Same.below hsA) hsA.size (Same.grown n2' hne))) ?_
            clear hK K n1' n2' n3' n4' HCC KR2
            try simp only [List.getElem_toArray, List.getElem_cons_succ, List.getElem_cons_zero, Act.put, List.setIfInBounds_toArray, List.set_cons_zero, List.set_cons_succ]
            have GB3 := GBq.keep hb3 (by omega)
            obtain ⟨g0, g1, g2, g3, g4, g5, g6, g7, g8⟩ := id GB3
            refine wpT_one (i := 8) rfl (by kernel_rfl) fun K hK => ?_
            go_simp
            refine hK.out _ _ (fun h => absurd h (by decide)) ?_
            clear hK K
            try simp only [List.getElem_toArray, List.getElem_cons_succ, List.getElem_cons_zero, Act.put, List.setIfInBounds_toArray, List.set_cons_zero, List.set_cons_succ]
            refine wpT_one (i := 9) rfl (by kernel_rfl) fun K hK => ?_
            go_simp
            refine hK.out _ _ (fun h => absurd h (by decide)) ?_
            clear hK K
            try simp only [List.getElem_toArray, List.getElem_cons_succ, List.getElem_cons_zero, Act.put, List.setIfInBounds_toArray, List.set_cons_zero, List.set_cons_succ]
            refine wpT_done (by kernel_rfl) ?_
            have GB4 := GB3.put6 (.slice Aw (RQ.length + 1) cw)
            have KR4 := KR3.set (a := ⟨G, 6, none⟩) (by show ¬ (G < B ∨ (w.heap.size + 3 < G ∧ G ≠ G)); omega) (by show G < _; omega) (.slice Aw (RQ.length + 1) cw)
            have hb4 : Below G w2 (w3.setCell ⟨G, 6, none⟩ (.slice Aw (RQ.length + 1) cw)) := (hbN.trans (hb3.mono (by omega))).setCell (Nat.le_refl _) _
            have hs4 : NN ≤ (w3.setCell ⟨G, 6, none⟩ (.slice Aw (RQ.length + 1) cw)).heap.size := by rw [World.size_setCell]; have := hb3.size; omega
            generalize w3.setCell ⟨G, 6, none⟩ (.slice Aw (RQ.length + 1) cw) = w4 at GB4 KR4 hb4 hs4 ⊢
            clear g0 g1 g2 g3 g4 g5 g6 g7 g8 GB3 KR3 c0 c1 c2 c3 c4 c5 c6 HSd HSB
            go_wp2_with fail
            go_roundw
            case rel => exact ⟨j + 1, _, _, by omega, by go_num, GB4, by rw [e3.out]; exact KR4, hb4, hs4⟩
            case measure => simp [intOf]; omega
          · have hjL : j = ks.length := by omega
            subst hjL
            clear hlt
            rw [List.take_length] at HRQ
            have GZ3 := GZ2.keep hbN (by omega)
            obtain ⟨g0, g1, g2, g3, g4, g5, g6, g7, g8⟩ := id GBq
            obtain ⟨z0, z1, z2, z3, z4, z5, z6, z7, z8⟩ := id GZ3
            simp only [Gl.kind, Gl.frm, Gl.rcv, Gl.sort, Gl.name, zeroGl] at g0 g1 g2 g3 g4 z0 z1 z2 z3 z4
            have hbF : Below w.heap.size w wr := hb00.trans (hbN.mono (by omega))
            have K1 := KRq.strs (D' := (fun k => k < B ∨ (w.heap.size + 3 < k ∧ k ≠ G))) (fun _ h => h)
            have K2 := KRq.gls (D' := (fun k => k < B ∨ (w.heap.size + 3 < k ∧ k ≠ G))) (fun _ h => h) (fun b h => by show _ ∨ _; omega)
            go_wp2_with fail
            have GF := GZ3.fill (.mk k f2 o2 s n [] []) (.slice Al ls.length cl) (.slice Ak RQ.length ck)
            have hbG := below_fill7 hbF (b := w.heap.size + 1 + 1 + 1) (by omega) (.int .i64 k) (.string ⟨f2.toArray⟩) (.string ⟨o2.toArray⟩) (.int .i64 s) (.string ⟨n.toArray⟩) (.slice Al ls.length cl) (.slice Ak RQ.length ck)
            have hSF : Same (fun k => k < B ∨ (w.heap.size + 3 < k ∧ k ≠ G)) wr _ := Same.fill7 (b := w.heap.size + 1 + 1 + 1) (by show ¬ (_ ∨ _); omega) (.int .i64 k) (.string ⟨f2.toArray⟩) (.string ⟨o2.toArray⟩) (.int .i64 s) (.string ⟨n.toArray⟩) (.slice Al ls.length cl) (.slice Ak RQ.length ck)
            simp only [Gl.kind, Gl.frm, Gl.rcv, Gl.sort, Gl.name] at GF
            have K3 := K1.keep (D' := fun k => k < B ∨ w.heap.size ≤ k) hSF (fun k hk _ => by have : _ ∨ _ := hk; omega)
            have K4 := K2.keep (D' := fun k => k < B ∨ w.heap.size ≤ k) hSF (fun k hk _ => by have : _ ∨ _ := hk; omega)
            generalize (((((((wr.setCell ⟨w.heap.size + 1 + 1 + 1, 0, none⟩ (.int .i64 k)).setCell ⟨w.heap.size + 1 + 1 + 1, 1, none⟩ (.string ⟨f2.toArray⟩)).setCell ⟨w.heap.size + 1 + 1 + 1, 2, none⟩ (.string ⟨o2.toArray⟩)).setCell ⟨w.heap.size + 1 + 1 + 1, 3, none⟩ (.int .i64 s)).setCell ⟨w.heap.size + 1 + 1 + 1, 4, none⟩ (.string ⟨n.toArray⟩)).setCell ⟨w.heap.size + 1 + 1 + 1, 5, none⟩ (.slice Al ls.length cl)).setCell ⟨w.heap.size + 1 + 1 + 1, 6, none⟩ (.slice Ak RQ.length ck)) = wF at GF hbG K3 K4 ⊢
            clear hSF
            obtain ⟨d0, d1, d2, d3, d4, d5, d6, d7, d8⟩ := GF
            simp only [Gl.kind, Gl.frm, Gl.rcv, Gl.sort, Gl.name] at d0 d1 d2 d3 d4
            refine bodyPost_ret (v := .agg #[.int .i64 k, .string ⟨f2.toArray⟩, .string ⟨o2.toArray⟩, .int .i64 s, .string ⟨n.toArray⟩, .slice Al ls.length cl, .slice Ak RQ.length ck]) (by simp [results, Tryd.results69, go_sem, d0, d1, d2, d3, d4, d5, d6]) rfl ?_
            refine ⟨hbG, _, rfl, ?_⟩
            rw [HF2.out, HO2.out, HRQ.out]
            exact ⟨_, _, rfl, K3, K4⟩
      · go_simp
        have hq : Below w2.heap.size w2 (w2.alloc (.cells #[.int .i64 0, .string ⟨#[]⟩, .string ⟨#[]⟩, .int .i64 0, .string ⟨#[]⟩, .slice none 0 0, .slice none 0 0] 52)) := (Below.refl _ _).alloc (Nat.le_refl _) _
        have GB3 := new_gbox w2 52
        have hb3 := hb2.trans (hq.mono hs2)
        have hs3 := Nat.le_trans hs2 hq.size
        obtain ⟨G, hG⟩ : ∃ x, w2.heap.size = x := ⟨_, rfl⟩
        have hMG : w.heap.size + 3 < G := by omega
        rw [hG] at GB3 ⊢
        generalize w2.alloc (.cells #[.int .i64 0, .string ⟨#[]⟩, .string ⟨#[]⟩, .int .i64 0, .string ⟨#[]⟩, .slice none 0 0, .slice none 0 0] 52) = w3 at GB3 hb3 hs3 hq ⊢
        refine hK.out _ _ (fun _ => HSB.out _ hb3) ?_
        clear hK K hq hG
        try simp only [List.getElem_toArray, List.getElem_cons_succ, List.getElem_cons_zero, Act.put, List.setIfInBounds_toArray, List.set_cons_zero, List.set_cons_succ]
        refine wpT_one (i := 16) rfl (by kernel_rfl) fun K hK => ?_
        go_simp
        refine (HCL.out w3 hb3).mono ?_
        rintro e w4 ⟨vl, rfl, hown, hq⟩
        have hb4 := hb3.trans (hq.mono hs3)
        have hs4 := Nat.le_trans hs3 hq.size
        have GB4 := GB3.keep hq GB3.lt
        obtain ⟨Al, cl, rfl⟩ := own_form hown
        have LB4 : StrsD (fun k => w.heap.size + 3 < k ∧ k ≠ G) w4 (.slice Al ls.length cl) ls := own_strsD hown (fun k hk => ⟨by omega, by have := GB3.lt; omega⟩)
        refine hK.out _ _ (fun _ => HSB.out _ hb4) ?_
        clear hK K hq hown
        try simp only [List.getElem_toArray, List.getElem_cons_succ, List.getElem_cons_zero, Act.put, List.setIfInBounds_toArray, List.set_cons_zero, List.set_cons_succ]
        refine wpT_take (i := 17) (v := ?_) rfl (by kernel_rfl) (by kernel_rfl) (by kernel_rfl) (by kernel_rfl) (fun _ _ _ h => h) (Or.inl ⟨by rfl, ?_⟩) (HSB.out _ hb4) ?_
        rotate_left
        · (intro wq hSw; obtain ⟨q0, q1, q2, q3, q4, q5⟩ := hSw; go_simp; all_goals (first | (with_reducible rfl) | (rw [if_neg (by first | omega | (simp; omega) | (simp only [List.length_append, List.length_cons, List.length_nil]; omega))])))
        simp only [List.getElem_toArray, List.getElem_cons_succ, List.getElem_cons_zero, Act.put, List.setIfInBounds_toArray, List.set_cons_zero, List.set_cons_succ]
        obtain ⟨z0, z1, z2, z3, z4, z5, z6, z7, z8⟩ := id GB4
        simp only [Gl.kind, Gl.frm, Gl.rcv, Gl.sort, Gl.name, zeroGl] at z0 z1 z2 z3 z4
        refine wpT_one (i := 19) rfl (by kernel_rfl) fun K hK => ?_
        go_simp
        refine hK.out _ _ (fun h => absurd h (by decide)) ?_
        clear hK K
        try simp only [List.getElem_toArray, List.getElem_cons_succ, List.getElem_cons_zero, Act.put, List.setIfInBounds_toArray, List.set_cons_zero, List.set_cons_succ]
        refine wpT_done (by kernel_rfl) ?_
        have GB := GB4.fill (.mk k f2 o2 s n [] []) (.slice Al ls.length cl) (.slice none 0 0)
        have hbR := below_fill7 hb4 (b := G) (by omega) (.int .i64 k) (.string ⟨f2.toArray⟩) (.string ⟨o2.toArray⟩) (.int .i64 s) (.string ⟨n.toArray⟩) (.slice Al ls.length cl) (.slice none 0 0)
        have hLR := LB4.keep (D' := fun k => w.heap.size + 3 < k ∧ k ≠ G) (Same.fill7 (b := G) (fun h => h.2 rfl) (.int .i64 k) (.string ⟨f2.toArray⟩) (.string ⟨o2.toArray⟩) (.int .i64 s) (.string ⟨n.toArray⟩) (.slice Al ls.length cl) (.slice none 0 0)) (fun _ h _ => h)
        simp only [Gl.kind, Gl.frm, Gl.rcv, Gl.sort, Gl.name] at GB
        generalize (((((((w4.setCell ⟨G, 0, none⟩ (.int .i64 k)).setCell ⟨G, 1, none⟩ (.string ⟨f2.toArray⟩)).setCell ⟨G, 2, none⟩ (.string ⟨o2.toArray⟩)).setCell ⟨G, 3, none⟩ (.int .i64 s)).setCell ⟨G, 4, none⟩ (.string ⟨n.toArray⟩)).setCell ⟨G, 5, none⟩ (.slice Al ls.length cl)).setCell ⟨G, 6, none⟩ (.slice none 0 0)) = wr at GB hbR hLR ⊢
        clear z0 z1 z2 z3 z4 z5 z6 z7 z8
        have hGsz := GB.lt
        have hb00 : Below w.heap.size w wr := hbW.trans (hbR.mono (by omega))
        have GT2 := GT.keep hbR (by omega)
        have GZ2 := GZ.keep hbR (by omega)
        have X1 := (hbR.cell (p := ⟨w.heap.size + 1, 0, none⟩) (by show w.heap.size + 1 < _; omega)).trans BF
        have X2 := (hbR.cell (p := ⟨w.heap.size + 1 + 1, 0, none⟩) (by show w.heap.size + 1 + 1 < _; omega)).trans BT
        have HK2 := Lib.hid (HK.out.keep (HSm.out _ (fun _ h => h) wr hbR) (fun _ h _ => h))
        have HF3 := Lib.hid (HF.out.keep (HSm.out _ (fun _ h => h) wr hbR) (fun _ h _ => h))
        have HT3 := Lib.hid (HT.out.keep (HSm.out _ (fun _ h => h) wr hbR) (fun _ h _ => h))
        obtain ⟨NN, hNN⟩ : ∃ x, wr.heap.size = x := ⟨_, rfl⟩
        have KR0 : KRow wr (fun k => k < B ∨ (w.heap.size + 3 < k ∧ k ≠ G)) NN (.slice Al ls.length cl) (.slice none 0 0) ls [] [] := ⟨World.ownsRow_nil _ _ _ _, .nil, hLR.keep (Same.refl _ _) (fun k hk _ => ⟨.inr hk, fun e => by cases e⟩)⟩
        have x6 := GT2.c6
        clear hbR hLR GT GZ BF BT HK HF HT HSm HNM HCL HSB HL hbW hWs
        go_wp2_with fail
        obtain ⟨w2, rfl⟩ : ∃ x, x = wr := ⟨_, rfl⟩
        clear x6
        go_loopw [33] (fun i wr => ∃ (j : Nat) (kvq : Value) (xs : List Value), j ≤ ks.length ∧ i = .int .i64 j ∧ GBox wr G (.mk k f2 o2 s n [] []) (.slice Al ls.length cl) kvq ∧ KRow wr (fun k => k < B ∨ (w.heap.size + 3 < k ∧ k ≠ G)) NN (.slice Al ls.length cl) kvq ls (rnGs F T (ks.take j)) xs ∧ Below G w2 wr ∧ NN ≤ wr.heap.size) (fun i _ => ks.length - (intOf i).toNat)
        case atStart => exact ⟨0, _, [], by omega, rfl, GB, KR0, Below.refl _ _, by omega⟩
        case round =>
          obtain ⟨j, kvq, xs, hj, rfl, GBq, KRq, hbN, hsN2⟩ := hrel
          obtain ⟨RQ, hRQ⟩ : ∃ x, rnGs F T (ks.take j) = x := ⟨_, rfl⟩
          have hrq : RQ.length ≤ 6 := by rw [← hRQ, rnGs_length, List.length_take]; omega
          rw [hRQ] at KRq
          have HRQ := Lib.hid hRQ
          clear hRQ
          obtain ⟨Ak, ck, rfl⟩ := own_form KRq.kids
          by_cases hlt : j < ks.length
          · obtain ⟨c, hc⟩ : ∃ x, ks[j]? = some x := ⟨_, List.getElem?_eq_getElem hlt⟩
            have HC := Lib.hid hc
            obtain ⟨-, -, b, off, A1, n1, p1, A2, n2, p2, rfl, hbB, c0, c1, c2, c3, c4, c5, c6, hl', hk'⟩ := gkid_at HK2.out hc
            have HL' := Lib.hid hl'; have HK' := Lib.hid hk'; clear hl' hk' hc
            have hbB' : b < B := hbB
            replace c0 := (hbN.cell (p := ⟨b, off + j * 7, none⟩) (by show b < _; omega)).trans c0
            replace c1 := (hbN.cell (p := ⟨b, off + j * 7 + 1, none⟩) (by show b < _; omega)).trans c1
            replace c2 := (hbN.cell (p := ⟨b, off + j * 7 + 2, none⟩) (by show b < _; omega)).trans c2
            replace c3 := (hbN.cell (p := ⟨b, off + j * 7 + 3, none⟩) (by show b < _; omega)).trans c3
            replace c4 := (hbN.cell (p := ⟨b, off + j * 7 + 4, none⟩) (by show b < _; omega)).trans c4
            replace c5 := (hbN.cell (p := ⟨b, off + j * 7 + 5, none⟩) (by show b < _; omega)).trans c5
            replace c6 := (hbN.cell (p := ⟨b, off + j * 7 + 6, none⟩) (by show b < _; omega)).trans c6
            have x1 := (hbN.cell (p := ⟨w.heap.size + 1, 0, none⟩) (by show w.heap.size + 1 < _; omega)).trans X1
            have x2 := (hbN.cell (p := ⟨w.heap.size + 1 + 1, 0, none⟩) (by show w.heap.size + 1 + 1 < _; omega)).trans X2
            obtain ⟨wa, hwa⟩ : ∃ y, wr.alloc (.cells #[.int .i64 c.kind, .string ⟨c.frm.toArray⟩, .string ⟨c.rcv.toArray⟩, .int .i64 c.sort, .string ⟨c.name.toArray⟩, .slice A1 n1 p1, .slice A2 n2 p2] 52) = y := ⟨_, rfl⟩
            have hba : Below wr.heap.size wr wa := by subst hwa; exact (Below.refl _ _).alloc (Nat.le_refl _) _
            have hsa : wa.heap.size = wr.heap.size + 1 := by subst hwa; simp
            have hkb : GBox wa wr.heap.size c (.slice A1 n1 p1) (.slice A2 n2 p2) := by subst hwa; exact new_gval wr c (.slice A1 n1 p1) (.slice A2 n2 p2) 52
            obtain ⟨k0, k1, k2, k3, k4, k5, k6, k7, k8⟩ := id hkb
            have hS : ∀ w' : World, Same (fun b => b < NN ∨ b = wr.heap.size) wa w' → (fun w' : World => w'.cell? ⟨G, 6, none⟩ = some (.slice Ak RQ.length ck) ∧ w'.cell? ⟨w.heap.size + 1, 0, none⟩ = some (.slice AF L cF) ∧ w'.cell? ⟨w.heap.size + 1 + 1, 0, none⟩ = some (.slice AT L cT) ∧ w'.cell? ⟨wr.heap.size, 0, none⟩ = some (.int .i64 c.kind) ∧ w'.cell? ⟨wr.heap.size, 1, none⟩ = some (.string ⟨c.frm.toArray⟩) ∧ w'.cell? ⟨wr.heap.size, 2, none⟩ = some (.string ⟨c.rcv.toArray⟩) ∧ w'.cell? ⟨wr.heap.size, 3, none⟩ = some (.int .i64 c.sort) ∧ w'.cell? ⟨wr.heap.size, 4, none⟩ = some (.string ⟨c.name.toArray⟩) ∧ w'.cell? ⟨wr.heap.size, 5, none⟩ = some (.slice A1 n1 p1) ∧ w'.cell? ⟨wr.heap.size, 6, none⟩ = some (.slice A2 n2 p2)) w' := fun w' h => ⟨h.cell (by first | (left; omega) | (right; rfl)) (GBq.keep hba (by omega)).c6, h.cell (by first | (left; omega) | (right; rfl)) (cell_keep x1 hba), h.cell (by first | (left; omega) | (right; rfl)) (cell_keep x2 hba), h.cell (by first | (left; omega) | (right; rfl)) k0, h.cell (by first | (left; omega) | (right; rfl)) k1, h.cell (by first | (left; omega) | (right; rfl)) k2, h.cell (by first | (left; omega) | (right; rfl)) k3, h.cell (by first | (left; omega) | (right; rfl)) k4, h.cell (by first | (left; omega) | (right; rfl)) k5, h.cell (by first | (left; omega) | (right; rfl)) k6⟩
            have HSd := Lib.hid (hS wa.drew (fun _ _ _ => rfl))
            have HSB := Lib.hid hS; clear hS
            have hne : ∀ q, q < NN ∨ q = wr.heap.size → some q ≠ (Value.slice Ak RQ.length ck).ownBlock := fun q hq e => by
              obtain ⟨h1, h2⟩ := KRq.kids.lt q e.symm
              omega
            obtain ⟨U, hU⟩ : ∃ x, rnG F T c = x := ⟨_, rfl⟩
            have e3 : Hid (rnGs F T (ks.take (j + 1)) = RQ ++ [U]) := Lib.hid (by rw [rnGs_take HC.out, HRQ.out, hU])
            have hbd : Below G w2 wa.drew := (hbN.trans (hba.mono (by omega))).drew
            have hSm : ∀ (D : Blocks), (∀ b, D b → b < B) → Same D w2 wa.drew := fun D hD b hb _ => hbd.block b (by have := hD b hb; omega)
            have hcm := HKS.out c (mem_of_at HC.out)
            have hcall := ih c (.agg #[.int .i64 c.kind, .string ⟨c.frm.toArray⟩, .string ⟨c.rcv.toArray⟩, .int .i64 c.sort, .string ⟨c.name.toArray⟩, .slice A1 n1 p1, .slice A2 n2 p2]) (.slice AF L cF) (.slice AT L cT) wa.drew hcm.1 hcm.2 (by show B ≤ wa.heap.size; omega) (glV_of (HL'.out.keep (hSm _ fun _ h => h) (fun _ h _ => h)) (HK'.out.keep (hSm _ fun _ h => h) (fun _ h _ => h))) (HF3.out.keep (hSm _ fun _ h => h) (fun _ h _ => h)) (HT3.out.keep (hSm _ fun _ h => h) (fun _ h _ => h))
            unfold ASays at hcall
            rw [hU] at hcall
            have HCL := Lib.hid hcall
            clear hcall hU hSm hbd
            have HD : Hid (∀ k, (k < B ∨ wa.heap.size ≤ k) → (fun k => k < B ∨ (w.heap.size + 3 < k ∧ k ≠ G)) k ∧ (Value.slice Ak RQ.length ck).ownBlock ≠ some k) := Lib.hid (fun k hk => ⟨by show _ ∨ _; omega, fun e => by have := KRq.kids.lt k e; omega⟩)
            go_wp2_with fail
            try rw [hwa]
            clear hwa
            refine wp_region_T 8 (fun w' : World => w'.cell? ⟨G, 6, none⟩ = some (.slice Ak RQ.length ck) ∧ w'.cell? ⟨w.heap.size + 1, 0, none⟩ = some (.slice AF L cF) ∧ w'.cell? ⟨w.heap.size + 1 + 1, 0, none⟩ = some (.slice AT L cT) ∧ w'.cell? ⟨wr.heap.size, 0, none⟩ = some (.int .i64 c.kind) ∧ w'.cell? ⟨wr.heap.size, 1, none⟩ = some (.string ⟨c.frm.toArray⟩) ∧ w'.cell? ⟨wr.heap.size, 2, none⟩ = some (.string ⟨c.rcv.toArray⟩) ∧ w'.cell? ⟨wr.heap.size, 3, none⟩ = some (.int .i64 c.sort) ∧ w'.cell? ⟨wr.heap.size, 4, none⟩ = some (.string ⟨c.name.toArray⟩) ∧ w'.cell? ⟨wr.heap.size, 5, none⟩ = some (.slice A1 n1 p1) ∧ w'.cell? ⟨wr.heap.size, 6, none⟩ = some (.slice A2 n2 p2)) (by kernel_rfl) ?_
            refine wpT_take (i := 0) (v := ?_) rfl (by kernel_rfl) (by kernel_rfl) (by kernel_rfl) (by kernel_rfl) (fun _ _ _ h => h) (Or.inl ⟨by rfl, ?_⟩) HSd.out ?_
            rotate_left
            · (intro wq hSw; obtain ⟨q0, q1, q2, q3, q4, q5, q6, q7, q8, q9⟩ := hSw; go_simp; all_goals (first | (with_reducible rfl) | (rw [if_neg (by first | omega | (simp; omega) | (simp only [List.length_append, List.length_cons, List.length_nil]; omega))])))
            simp only [List.getElem_toArray, List.getElem_cons_succ, List.getElem_cons_zero, Act.put, List.setIfInBounds_toArray, List.set_cons_zero, List.set_cons_succ]
            refine wpT_take (i := 1) (v := ?_) rfl (by kernel_rfl) (by kernel_rfl) (by kernel_rfl) (by kernel_rfl) (fun _ _ _ h => h) (Or.inl ⟨by rfl, ?_⟩) HSd.out ?_
            rotate_left
            · (intro wq hSw; obtain ⟨q0, q1, q2, q3, q4, q5, q6, q7, q8, q9⟩ := hSw; go_simp; all_goals (first | (with_reducible rfl) | (rw [if_neg (by first | omega | (simp; omega) | (simp only [List.length_append, List.length_cons, List.length_nil]; omega))])))
            simp only [List.getElem_toArray, List.getElem_cons_succ, List.getElem_cons_zero, Act.put, List.setIfInBounds_toArray, List.set_cons_zero, List.set_cons_succ]
            refine wpT_take (i := 2) (v := ?_) rfl (by kernel_rfl) (by kernel_rfl) (by kernel_rfl) (by kernel_rfl) (fun _ _ _ h => h) (Or.inl ⟨by rfl, ?_⟩) HSd.out ?_
            rotate_left
            · (intro wq hSw; obtain ⟨q0, q1, q2, q3, q4, q5, q6, q7, q8, q9⟩ := hSw; go_simp; all_goals (first | (with_reducible rfl) | (rw [if_neg (by first | omega | (simp; omega) | (simp only [List.length_append, List.length_cons, List.length_nil]; omega))])))
            simp only [List.getElem_toArray, List.getElem_cons_succ, List.getElem_cons_zero, Act.put, List.setIfInBounds_toArray, List.set_cons_zero, List.set_cons_succ]
            refine wpT_take (i := 3) (v := ?_) rfl (by kernel_rfl) (by kernel_rfl) (by kernel_rfl) (by kernel_rfl) (fun _ _ _ h => h) (Or.inl ⟨by rfl, ?_⟩) HSd.out ?_
            rotate_left
            · (intro wq hSw; obtain ⟨q0, q1, q2, q3, q4, q5, q6, q7, q8, q9⟩ := hSw; go_simp; all_goals (first | (with_reducible rfl) | (rw [if_neg (by first | omega | (simp; omega) | (simp only [List.length_append, List.length_cons, List.length_nil]; omega))])))
            simp only [List.getElem_toArray, List.getElem_cons_succ, List.getElem_cons_zero, Act.put, List.setIfInBounds_toArray, List.set_cons_zero, List.set_cons_succ]
            refine wpT_take (i := 4) (v := ?_) rfl (by kernel_rfl) (by kernel_rfl) (by kernel_rfl) (by kernel_rfl) (fun _ _ _ h => h) (Or.inl ⟨by rfl, ?_⟩) HSd.out ?_
            rotate_left
            · (intro wq hSw; obtain ⟨q0, q1, q2, q3, q4, q5, q6, q7, q8, q9⟩ := hSw; go_simp; all_goals (first | (with_reducible rfl) | (rw [if_neg (by first | omega | (simp; omega) | (simp only [List.length_append, List.length_cons, List.length_nil]; omega))])))
            simp only [List.getElem_toArray, List.getElem_cons_succ, List.getElem_cons_zero, Act.put, List.setIfInBounds_toArray, List.set_cons_zero, List.set_cons_succ]
            refine wpT_one (i := 5) rfl (by kernel_rfl) fun K hK => ?_
            go_simp
            refine HCL.out.mono ?_
            rintro e w1 ⟨hq1, v', rfl, hUV⟩
            have hba1 : Below wa.heap.size wa w1 := chain (Below.refl wa.heap.size wa).drew hq1
            have hb1 : Below wr.heap.size wr w1 := chain hba hba1
            have hs1 := hb1.size
            have hs2 := hba1.size
            obtain ⟨lv2, kv2, rfl, m1, m2⟩ := hUV
            have M1 := Lib.hid (m1.keep (D' := fun k => (fun k => k < B ∨ (w.heap.size + 3 < k ∧ k ≠ G)) k ∧ (Value.slice Ak RQ.length ck).ownBlock ≠ some k) (fun _ _ _ => rfl) (fun k hk _ => HD.out k hk))
            have M2 := Lib.hid (m2.keep (D' := fun k => (fun k => k < B ∨ (w.heap.size + 3 < k ∧ k ≠ G)) k ∧ (Value.slice Ak RQ.length ck).ownBlock ≠ some k) (fun _ _ _ => rfl) (fun k hk _ => HD.out k hk))
            obtain ⟨D1, e1, rfl, -, -⟩ := m1
            obtain ⟨D2, e2, rfl, -, -⟩ := m2
            clear hq1 HCL
            refine hK.out _ _ (fun _ => HSB.out _ (Same.below hba1)) ?_
            clear hK K
            try simp only [List.getElem_toArray, List.getElem_cons_succ, List.getElem_cons_zero, Act.put, List.setIfInBounds_toArray, List.set_cons_zero, List.set_cons_succ]
            refine wpT_one (i := 6) rfl (by kernel_rfl) fun K hK => ?_
            go_simp
            have hbn : Below w1.heap.size w1 (w1.alloc (.cells #[.int .i64 U.kind, .string ⟨U.frm.toArray⟩, .string ⟨U.rcv.toArray⟩, .int .i64 U.sort, .string ⟨U.name.toArray⟩, .slice D1 U.labels.length e1, .slice D2 U.kids.length e2] 52)) := (Below.refl _ _).alloc (Nat.le_refl _) _
            have hsA := Below.trans hba1 ((Below.refl _ w1).alloc hs2 (.cells #[.int .i64 U.kind, .string ⟨U.frm.toArray⟩, .string ⟨U.rcv.toArray⟩, .int .i64 U.sort, .string ⟨U.name.toArray⟩, .slice D1 U.labels.length e1, .slice D2 U.kids.length e2] 52))
            have hbA : Below NN wr (w1.alloc (.cells #[.int .i64 U.kind, .string ⟨U.frm.toArray⟩, .string ⟨U.rcv.toArray⟩, .int .i64 U.sort, .string ⟨U.name.toArray⟩, .slice D1 U.labels.length e1, .slice D2 U.kids.length e2] 52)) := (hb1.mono hsN2).alloc (by omega) _
            have HCC : Hid (Cells7 (fun k => (fun k => k < B ∨ (w.heap.size + 3 < k ∧ k ≠ G)) k ∧ (Value.slice Ak RQ.length ck).ownBlock ≠ some k) (w1.alloc (.cells #[.int .i64 U.kind, .string ⟨U.frm.toArray⟩, .string ⟨U.rcv.toArray⟩, .int .i64 U.sort, .string ⟨U.name.toArray⟩, .slice D1 U.labels.length e1, .slice D2 U.kids.length e2] 52)) [.int .i64 U.kind, .string ⟨U.frm.toArray⟩, .string ⟨U.rcv.toArray⟩, .int .i64 U.sort, .string ⟨U.name.toArray⟩, .slice D1 U.labels.length e1, .slice D2 U.kids.length e2] [U]) := Lib.hid (.cons U _ _ [] [] (M1.out.keep (Same.below hbn) (fun _ h _ => h)) (M2.out.keep (Same.below hbn) (fun _ h _ => h)) .nil)
            have KR2 := (KRq.below hb1).below hbn
            refine hK.out _ _ (fun _ => HSB.out _ (Same.below hsA)) ?_
            clear hK K M1 M2
            try simp only [List.getElem_toArray, List.getElem_cons_succ, List.getElem_cons_zero, Act.put, List.setIfInBounds_toArray, List.set_cons_zero, List.set_cons_succ]
            refine wpT_one (i := 7) rfl (by kernel_rfl) fun K hK => ?_
            refine step_app rt_gls rfl (.tmp 38) (.tmp 43) rfl NN (.slice Ak RQ.length ck) RQ.length xs rfl KR2.kids ⟨w1.heap.size, 0, none⟩ 1 1 [.int .i64 U.kind, .string ⟨U.frm.toArray⟩, .string ⟨U.rcv.toArray⟩, .int .i64 U.sort, .string ⟨U.name.toArray⟩, .slice D1 U.labels.length e1, .slice D2 U.kids.length e2] rfl rfl (seven_new _ _ _ _ _ _ _ _ _) (by simp [Value.oneCell']) (by unfold maxLen; omega) (by omega) (by rw [World.size_alloc]; omega) (fun v3 w3 n1' n2' n3' n4' => ?_)
            have KR3 := KR2.kid HCC.out n1' n2' n3'
            have hb3 : Below NN wr w3 := hbA.trans n4'
            obtain ⟨Aw, cw, rfl⟩ := own_form n1'
            refine hK.out _ _ (fun _ => HSB.out _ (Same.trans (Same.below hsA) hsA.size (Same.grown n2' hne))) ?_
            clear hK K n1' n2' n3' n4' HCC KR2
            try simp only [List.getElem_toArray, List.getElem_cons_succ, List.getElem_cons_zero, Act.put, List.setIfInBounds_toArray, List.set_cons_zero, List.set_cons_succ]
            have GB3 := GBq.keep hb3 (by omega)
            obtain ⟨g0, g1, g2, g3, g4, g5, g6, g7, g8⟩ := id GB3
            refine wpT_one (i := 8) rfl (by kernel_rfl) fun K hK => ?_
            go_simp
            refine hK.out _ _ (fun h => absurd h (by decide)) ?_
            clear hK K
            try simp only [List.getElem_toArray, List.getElem_cons_succ, List.getElem_cons_zero, Act.put, List.setIfInBounds_toArray, List.set_cons_zero, List.set_cons_succ]
            refine wpT_one (i := 9) rfl (by kernel_rfl) fun K hK => ?_
            go_simp
            refine hK.out _ _ (fun h => absurd h (by decide)) ?_
            clear hK K
            try simp only [List.getElem_toArray, List.getElem_cons_succ, List.getElem_cons_zero, Act.put, List.setIfInBounds_toArray, List.set_cons_zero, List.set_cons_succ]
            refine wpT_done (by kernel_rfl) ?_
            have GB4 := GB3.put6 (.slice Aw (RQ.length + 1) cw)
            have KR4 := KR3.set (a := ⟨G, 6, none⟩) (by show ¬ (G < B ∨ (w.heap.size + 3 < G ∧ G ≠ G)); omega) (by show G < _; omega) (.slice Aw (RQ.length + 1) cw)
            have hb4 : Below G w2 (w3.setCell ⟨G, 6, none⟩ (.slice Aw (RQ.length + 1) cw)) := (hbN.trans (hb3.mono (by omega))).setCell (Nat.le_refl _) _
            have hs4 : NN ≤ (w3.setCell ⟨G, 6, none⟩ (.slice Aw (RQ.length + 1) cw)).heap.size := by rw [World.size_setCell]; have := hb3.size; omega
            generalize w3.setCell ⟨G, 6, none⟩ (.slice Aw (RQ.length + 1) cw) = w4 at GB4 KR4 hb4 hs4 ⊢
            clear g0 g1 g2 g3 g4 g5 g6 g7 g8 GB3 KR3 c0 c1 c2 c3 c4 c5 c6 HSd HSB
            go_wp2_with fail
            go_roundw
            case rel => exact ⟨j + 1, _, _, by omega, by go_num, GB4, by rw [e3.out]; exact KR4, hb4, hs4⟩
            case measure => simp [intOf]; omega
          · have hjL : j = ks.length := by omega
            subst hjL
            clear hlt
            rw [List.take_length] at HRQ
            have GZ3 := GZ2.keep hbN (by omega)
            obtain ⟨g0, g1, g2, g3, g4, g5, g6, g7, g8⟩ := id GBq
            obtain ⟨z0, z1, z2, z3, z4, z5, z6, z7, z8⟩ := id GZ3
            simp only [Gl.kind, Gl.frm, Gl.rcv, Gl.sort, Gl.name, zeroGl] at g0 g1 g2 g3 g4 z0 z1 z2 z3 z4
            have hbF : Below w.heap.size w wr := hb00.trans (hbN.mono (by omega))
            have K1 := KRq.strs (D' := (fun k => k < B ∨ (w.heap.size + 3 < k ∧ k ≠ G))) (fun _ h => h)
            have K2 := KRq.gls (D' := (fun k => k < B ∨ (w.heap.size + 3 < k ∧ k ≠ G))) (fun _ h => h) (fun b h => by show _ ∨ _; omega)
            go_wp2_with fail
            have GF := GZ3.fill (.mk k f2 o2 s n [] []) (.slice Al ls.length cl) (.slice Ak RQ.length ck)
            have hbG := below_fill7 hbF (b := w.heap.size + 1 + 1 + 1) (by omega) (.int .i64 k) (.string ⟨f2.toArray⟩) (.string ⟨o2.toArray⟩) (.int .i64 s) (.string ⟨n.toArray⟩) (.slice Al ls.length cl) (.slice Ak RQ.length ck)
            have hSF : Same (fun k => k < B ∨ (w.heap.size + 3 < k ∧ k ≠ G)) wr _ := Same.fill7 (b := w.heap.size + 1 + 1 + 1) (by show ¬ (_ ∨ _); omega) (.int .i64 k) (.string ⟨f2.toArray⟩) (.string ⟨o2.toArray⟩) (.int .i64 s) (.string ⟨n.toArray⟩) (.slice Al ls.length cl) (.slice Ak RQ.length ck)
            simp only [Gl.kind, Gl.frm, Gl.rcv, Gl.sort, Gl.name] at GF
            have K3 := K1.keep (D' := fun k => k < B ∨ w.heap.size ≤ k) hSF (fun k hk _ => by have : _ ∨ _ := hk; omega)
            have K4 := K2.keep (D' := fun k => k < B ∨ w.heap.size ≤ k) hSF (fun k hk _ => by have : _ ∨ _ := hk; omega)
            generalize (((((((wr.setCell ⟨w.heap.size + 1 + 1 + 1, 0, none⟩ (.int .i64 k)).setCell ⟨w.heap.size + 1 + 1 + 1, 1, none⟩ (.string ⟨f2.toArray⟩)).setCell ⟨w.heap.size + 1 + 1 + 1, 2, none⟩ (.string ⟨o2.toArray⟩)).setCell ⟨w.heap.size + 1 + 1 + 1, 3, none⟩ (.int .i64 s)).setCell ⟨w.heap.size + 1 + 1 + 1, 4, none⟩ (.string ⟨n.toArray⟩)).setCell ⟨w.heap.size + 1 + 1 + 1, 5, none⟩ (.slice Al ls.length cl)).setCell ⟨w.heap.size + 1 + 1 + 1, 6, none⟩ (.slice Ak RQ.length ck)) = wF at GF hbG K3 K4 ⊢
            clear hSF
            obtain ⟨d0, d1, d2, d3, d4, d5, d6, d7, d8⟩ := GF
            simp only [Gl.kind, Gl.frm, Gl.rcv, Gl.sort, Gl.name] at d0 d1 d2 d3 d4
            refine bodyPost_ret (v := .agg #[.int .i64 k, .string ⟨f2.toArray⟩, .string ⟨o2.toArray⟩, .int .i64 s, .string ⟨n.toArray⟩, .slice Al ls.length cl, .slice Ak RQ.length ck]) (by simp [results, Tryd.results69, go_sem, d0, d1, d2, d3, d4, d5, d6]) rfl ?_
            refine ⟨hbG, _, rfl, ?_⟩
            rw [HF2.out, HO2.out, HRQ.out]
            exact ⟨_, _, rfl, K3, K4⟩
    · go_simp
      have hq : Below w1.heap.size w1 (w1.alloc (.cells #[.int .i64 0, .string ⟨#[]⟩, .string ⟨#[]⟩, .int .i64 0, .string ⟨#[]⟩, .slice none 0 0, .slice none 0 0] 52)) := (Below.refl _ _).alloc (Nat.le_refl _) _
      have GB2 := new_gbox w1 52
      have hb2 := hb1.trans (hq.mono hs1)
      have hs2 := Nat.le_trans hs1 hq.size
      obtain ⟨G, hG⟩ : ∃ x, w1.heap.size = x := ⟨_, rfl⟩
      have hMG : w.heap.size + 3 < G := by omega
      rw [hG] at GB2 ⊢
      generalize w1.alloc (.cells #[.int .i64 0, .string ⟨#[]⟩, .string ⟨#[]⟩, .int .i64 0, .string ⟨#[]⟩, .slice none 0 0, .slice none 0 0] 52) = w2 at GB2 hb2 hs2 hq ⊢
      refine hK.out _ _ (fun _ => HSB.out _ hb2) ?_
      clear hK K hq hG
      try simp only [List.getElem_toArray, List.getElem_cons_succ, List.getElem_cons_zero, Act.put, List.setIfInBounds_toArray, List.set_cons_zero, List.set_cons_succ]
      refine wpT_one (i := 9) rfl (by kernel_rfl) fun K hK => ?_
      go_simp
      refine (HNM.out o w2 hb2).mono ?_
      rw [HO2.out]
      rintro e w3 ⟨rfl, hq⟩
      have hb3 := hb2.trans (hq.mono hs2)
      have hs3 := Nat.le_trans hs2 hq.size
      have GB3 := GB2.keep hq GB2.lt
      refine hK.out _ _ (fun _ => HSB.out _ hb3) ?_
      clear hK K hq
      try simp only [List.getElem_toArray, List.getElem_cons_succ, List.getElem_cons_zero, Act.put, List.setIfInBounds_toArray, List.set_cons_zero, List.set_cons_succ]
      refine wpT_one (i := 16) rfl (by kernel_rfl) fun K hK => ?_
      go_simp
      refine (HCL.out w3 hb3).mono ?_
      rintro e w4 ⟨vl, rfl, hown, hq⟩
      have hb4 := hb3.trans (hq.mono hs3)
      have hs4 := Nat.le_trans hs3 hq.size
      have GB4 := GB3.keep hq GB3.lt
      obtain ⟨Al, cl, rfl⟩ := own_form hown
      have LB4 : StrsD (fun k => w.heap.size + 3 < k ∧ k ≠ G) w4 (.slice Al ls.length cl) ls := own_strsD hown (fun k hk => ⟨by omega, by have := GB3.lt; omega⟩)
      refine hK.out _ _ (fun _ => HSB.out _ hb4) ?_
      clear hK K hq hown
      try simp only [List.getElem_toArray, List.getElem_cons_succ, List.getElem_cons_zero, Act.put, List.setIfInBounds_toArray, List.set_cons_zero, List.set_cons_succ]
      refine wpT_take (i := 17) (v := ?_) rfl (by kernel_rfl) (by kernel_rfl) (by kernel_rfl) (by kernel_rfl) (fun _ _ _ h => h) (Or.inl ⟨by rfl, ?_⟩) (HSB.out _ hb4) ?_
      rotate_left
      · (intro wq hSw; obtain ⟨q0, q1, q2, q3, q4, q5⟩ := hSw; go_simp; all_goals (first | (with_reducible rfl) | (rw [if_neg (by first | omega | (simp; omega) | (simp only [List.length_append, List.length_cons, List.length_nil]; omega))])))
      simp only [List.getElem_toArray, List.getElem_cons_succ, List.getElem_cons_zero, Act.put, List.setIfInBounds_toArray, List.set_cons_zero, List.set_cons_succ]
      obtain ⟨z0, z1, z2, z3, z4, z5, z6, z7, z8⟩ := id GB4
      simp only [Gl.kind, Gl.frm, Gl.rcv, Gl.sort, Gl.name, zeroGl] at z0 z1 z2 z3 z4
      refine wpT_one (i := 19) rfl (by kernel_rfl) fun K hK => ?_
      go_simp
      refine hK.out _ _ (fun h => absurd h (by decide)) ?_
      clear hK K
      try simp only [List.getElem_toArray, List.getElem_cons_succ, List.getElem_cons_zero, Act.put, List.setIfInBounds_toArray, List.set_cons_zero, List.set_cons_succ]
      refine wpT_done (by kernel_rfl) ?_
      have GB := GB4.fill (.mk k f2 o2 s n [] []) (.slice Al ls.length cl) (.slice none 0 0)
      have hbR := below_fill7 hb4 (b := G) (by omega) (.int .i64 k) (.string ⟨f2.toArray⟩) (.string ⟨o2.toArray⟩) (.int .i64 s) (.string ⟨n.toArray⟩) (.slice Al ls.length cl) (.slice none 0 0)
      have hLR := LB4.keep (D' := fun k => w.heap.size + 3 < k ∧ k ≠ G) (Same.fill7 (b := G) (fun h => h.2 rfl) (.int .i64 k) (.string ⟨f2.toArray⟩) (.string ⟨o2.toArray⟩) (.int .i64 s) (.string ⟨n.toArray⟩) (.slice Al ls.length cl) (.slice none 0 0)) (fun _ h _ => h)
      simp only [Gl.kind, Gl.frm, Gl.rcv, Gl.sort, Gl.name] at GB
      generalize (((((((w4.setCell ⟨G, 0, none⟩ (.int .i64 k)).setCell ⟨G, 1, none⟩ (.string ⟨f2.toArray⟩)).setCell ⟨G, 2, none⟩ (.string ⟨o2.toArray⟩)).setCell ⟨G, 3, none⟩ (.int .i64 s)).setCell ⟨G, 4, none⟩ (.string ⟨n.toArray⟩)).setCell ⟨G, 5, none⟩ (.slice Al ls.length cl)).setCell ⟨G, 6, none⟩ (.slice none 0 0)) = wr at GB hbR hLR ⊢
      clear z0 z1 z2 z3 z4 z5 z6 z7 z8
      have hGsz := GB.lt
      have hb00 : Below w.heap.size w wr := hbW.trans (hbR.mono (by omega))
      have GT2 := GT.keep hbR (by omega)
      have GZ2 := GZ.keep hbR (by omega)
      have X1 := (hbR.cell (p := ⟨w.heap.size + 1, 0, none⟩) (by show w.heap.size + 1 < _; omega)).trans BF
      have X2 := (hbR.cell (p := ⟨w.heap.size + 1 + 1, 0, none⟩) (by show w.heap.size + 1 + 1 < _; omega)).trans BT
      have HK2 := Lib.hid (HK.out.keep (HSm.out _ (fun _ h => h) wr hbR) (fun _ h _ => h))
      have HF3 := Lib.hid (HF.out.keep (HSm.out _ (fun _ h => h) wr hbR) (fun _ h _ => h))
      have HT3 := Lib.hid (HT.out.keep (HSm.out _ (fun _ h => h) wr hbR) (fun _ h _ => h))
      obtain ⟨NN, hNN⟩ : ∃ x, wr.heap.size = x := ⟨_, rfl⟩
      have KR0 : KRow wr (fun k => k < B ∨ (w.heap.size + 3 < k ∧ k ≠ G)) NN (.slice Al ls.length cl) (.slice none 0 0) ls [] [] := ⟨World.ownsRow_nil _ _ _ _, .nil, hLR.keep (Same.refl _ _) (fun k hk _ => ⟨.inr hk, fun e => by cases e⟩)⟩
      have x6 := GT2.c6
      clear hbR hLR GT GZ BF BT HK HF HT HSm HNM HCL HSB HL hbW hWs
      go_wp2_with fail
      obtain ⟨w2, rfl⟩ : ∃ x, x = wr := ⟨_, rfl⟩
      clear x6
      go_loopw [33] (fun i wr => ∃ (j : Nat) (kvq : Value) (xs : List Value), j ≤ ks.length ∧ i = .int .i64 j ∧ GBox wr G (.mk k f2 o2 s n [] []) (.slice Al ls.length cl) kvq ∧ KRow wr (fun k => k < B ∨ (w.heap.size + 3 < k ∧ k ≠ G)) NN (.slice Al ls.length cl) kvq ls (rnGs F T (ks.take j)) xs ∧ Below G w2 wr ∧ NN ≤ wr.heap.size) (fun i _ => ks.length - (intOf i).toNat)
      case atStart => exact ⟨0, _, [], by omega, rfl, GB, KR0, Below.refl _ _, by omega⟩
      case round =>
        obtain ⟨j, kvq, xs, hj, rfl, GBq, KRq, hbN, hsN2⟩ := hrel
        obtain ⟨RQ, hRQ⟩ : ∃ x, rnGs F T (ks.take j) = x := ⟨_, rfl⟩
        have hrq : RQ.length ≤ 6 := by rw [← hRQ, rnGs_length, List.length_take]; omega
        rw [hRQ] at KRq
        have HRQ := Lib.hid hRQ
        clear hRQ
        obtain ⟨Ak, ck, rfl⟩ := own_form KRq.kids
        by_cases hlt : j < ks.length
        · obtain ⟨c, hc⟩ : ∃ x, ks[j]? = some x := ⟨_, List.getElem?_eq_getElem hlt⟩
          have HC := Lib.hid hc
          obtain ⟨-, -, b, off, A1, n1, p1, A2, n2, p2, rfl, hbB, c0, c1, c2, c3, c4, c5, c6, hl', hk'⟩ := gkid_at HK2.out hc
          have HL' := Lib.hid hl'; have HK' := Lib.hid hk'; clear hl' hk' hc
          have hbB' : b < B := hbB
          replace c0 := (hbN.cell (p := ⟨b, off + j * 7, none⟩) (by show b < _; omega)).trans c0
          replace c1 := (hbN.cell (p := ⟨b, off + j * 7 + 1, none⟩) (by show b < _; omega)).trans c1
          replace c2 := (hbN.cell (p := ⟨b, off + j * 7 + 2, none⟩) (by show b < _; omega)).trans c2
          replace c3 := (hbN.cell (p := ⟨b, off + j * 7 + 3, none⟩) (by show b < _; omega)).trans c3
          replace c4 := (hbN.cell (p := ⟨b, off + j * 7 + 4, none⟩) (by show b < _; omega)).trans c4
          replace c5 := (hbN.cell (p := ⟨b, off + j * 7 + 5, none⟩) (by show b < _; omega)).trans c5
          replace c6 := (hbN.cell (p := ⟨b, off + j * 7 + 6, none⟩) (by show b < _; omega)).trans c6
          have x1 := (hbN.cell (p := ⟨w.heap.size + 1, 0, none⟩) (by show w.heap.size + 1 < _; omega)).trans X1
          have x2 := (hbN.cell (p := ⟨w.heap.size + 1 + 1, 0, none⟩) (by show w.heap.size + 1 + 1 < _; omega)).trans X2
          obtain ⟨wa, hwa⟩ : ∃ y, wr.alloc (.cells #[.int .i64 c.kind, .string ⟨c.frm.toArray⟩, .string ⟨c.rcv.toArray⟩, .int .i64 c.sort, .string ⟨c.name.toArray⟩, .slice A1 n1 p1, .slice A2 n2 p2] 52) = y := ⟨_, rfl⟩
          have hba : Below wr.heap.size wr wa := by subst hwa; exact (Below.refl _ _).alloc (Nat.le_refl _) _
          have hsa : wa.heap.size = wr.heap.size + 1 := by subst hwa; simp
          have hkb : GBox wa wr.heap.size c (.slice A1 n1 p1) (.slice A2 n2 p2) := by subst hwa; exact new_gval wr c (.slice A1 n1 p1) (.slice A2 n2 p2) 52
          obtain ⟨k0, k1, k2, k3, k4, k5, k6, k7, k8⟩ := id hkb
          have hS : ∀ w' : World, Same (fun b => b < NN ∨ b = wr.heap.size) wa w' → (fun w' : World => w'.cell? ⟨G, 6, none⟩ = some (.slice Ak RQ.length ck) ∧ w'.cell? ⟨w.heap.size + 1, 0, none⟩ = some (.slice AF L cF) ∧ w'.cell? ⟨w.heap.size + 1 + 1, 0, none⟩ = some (.slice AT L cT) ∧ w'.cell? ⟨wr.heap.size, 0, none⟩ = some (.int .i64 c.kind) ∧ w'.cell? ⟨wr.heap.size, 1, none⟩ = some (.string ⟨c.frm.toArray⟩) ∧ w'.cell? ⟨wr.heap.size, 2, none⟩ = some (.string ⟨c.rcv.toArray⟩) ∧ w'.cell? ⟨wr.heap.size, 3, none⟩ = some (.int .i64 c.sort) ∧ w'.cell? ⟨wr.heap.size, 4, none⟩ = some (.string ⟨c.name.toArray⟩) ∧ w'.cell? ⟨wr.heap.size, 5, none⟩ = some (.slice A1 n1 p1) ∧ w'.cell? ⟨wr.heap.size, 6, none⟩ = some (.slice A2 n2 p2)) w' := fun w' h => ⟨h.cell (by first | (left; omega) | (right; rfl)) (GBq.keep hba (by omega)).c6, h.cell (by first | (left; omega) | (right; rfl)) (cell_keep x1 hba), h.cell (by first | (left; omega) | (right; rfl)) (cell_keep x2 hba), h.cell (by first | (left; omega) | (right; rfl)) k0, h.cell (by first | (left; omega) | (right; rfl)) k1, h.cell (by first | (left; omega) | (right; rfl)) k2, h.cell (by first | (left; omega) | (right; rfl)) k3, h.cell (by first | (left; omega) | (right; rfl)) k4, h.cell (by first | (left; omega) | (right; rfl)) k5, h.cell (by first | (left; omega) | (right; rfl)) k6⟩
          have HSd := Lib.hid (hS wa.drew (fun _ _ _ => rfl))
          have HSB := Lib.hid hS; clear hS
          have hne : ∀ q, q < NN ∨ q = wr.heap.size → some q ≠ (Value.slice Ak RQ.length ck).ownBlock := fun q hq e => by
            obtain ⟨h1, h2⟩ := KRq.kids.lt q e.symm
            omega
          obtain ⟨U, hU⟩ : ∃ x, rnG F T c = x := ⟨_, rfl⟩
          have e3 : Hid (rnGs F T (ks.take (j + 1)) = RQ ++ [U]) := Lib.hid (by rw [rnGs_take HC.out, HRQ.out, hU])
          have hbd : Below G w2 wa.drew := (hbN.trans (hba.mono (by omega))).drew
          have hSm : ∀ (D : Blocks), (∀ b, D b → b < B) → Same D w2 wa.drew := fun D hD b hb _ => hbd.block b (by have := hD b hb; omega)
          have hcm := HKS.out c (mem_of_at HC.out)
          have hcall := ih c (.agg #[.int .i64 c.kind, .string ⟨c.frm.toArray⟩, .string ⟨c.rcv.toArray⟩, .int .i64 c.sort, .string ⟨c.name.toArray⟩, .slice A1 n1 p1, .slice A2 n2 p2]) (.slice AF L cF) (.slice AT L cT) wa.drew hcm.1 hcm.2 (by show B ≤ wa.heap.size; omega) (glV_of (HL'.out.keep (hSm _ fun _ h => h) (fun _ h _ => h)) (HK'.out.keep (hSm _ fun _ h => h) (fun _ h _ => h))) (HF3.out.keep (hSm _ fun _ h => h) (fun _ h _ => h)) (HT3.out.keep (hSm _ fun _ h => h) (fun _ h _ => h))
          unfold ASays at hcall
          rw [hU] at hcall
          have HCL := Lib.hid hcall
          clear hcall hU hSm hbd
          have HD : Hid (∀ k, (k < B ∨ wa.heap.size ≤ k) → (fun k => k < B ∨ (w.heap.size + 3 < k ∧ k ≠ G)) k ∧ (Value.slice Ak RQ.length ck).ownBlock ≠ some k) := Lib.hid (fun k hk => ⟨by show _ ∨ _; omega, fun e => by have := KRq.kids.lt k e; omega⟩)
          go_wp2_with fail
          try rw [hwa]
          clear hwa
          refine wp_region_T 8 (fun w' : World => w'.cell? ⟨G, 6, none⟩ = some (.slice Ak RQ.length ck) ∧ w'.cell? ⟨w.heap.size + 1, 0, none⟩ = some (.slice AF L cF) ∧ w'.cell? ⟨w.heap.size + 1 + 1, 0, none⟩ = some (.slice AT L cT) ∧ w'.cell? ⟨wr.heap.size, 0, none⟩ = some (.int .i64 c.kind) ∧ w'.cell? ⟨wr.heap.size, 1, none⟩ = some (.string ⟨c.frm.toArray⟩) ∧ w'.cell? ⟨wr.heap.size, 2, none⟩ = some (.string ⟨c.rcv.toArray⟩) ∧ w'.cell? ⟨wr.heap.size, 3, none⟩ = some (.int .i64 c.sort) ∧ w'.cell? ⟨wr.heap.size, 4, none⟩ = some (.string ⟨c.name.toArray⟩) ∧ w'.cell? ⟨wr.heap.size, 5, none⟩ = some (.slice A1 n1 p1) ∧ w'.cell? ⟨wr.heap.size, 6, none⟩ = some (.slice A2 n2 p2)) (by kernel_rfl) ?_
          refine wpT_take (i := 0) (v := ?_) rfl (by kernel_rfl) (by kernel_rfl) (by kernel_rfl) (by kernel_rfl) (fun _ _ _ h => h) (Or.inl ⟨by rfl, ?_⟩) HSd.out ?_
          rotate_left
          · (intro wq hSw; obtain ⟨q0, q1, q2, q3, q4, q5, q6, q7, q8, q9⟩ := hSw; go_simp; all_goals (first | (with_reducible rfl) | (rw [if_neg (by first | omega | (simp; omega) | (simp only [List.length_append, List.length_cons, List.length_nil]; omega))])))
          simp only [List.getElem_toArray, List.getElem_cons_succ, List.getElem_cons_zero, Act.put, List.setIfInBounds_toArray, List.set_cons_zero, List.set_cons_succ]
          refine wpT_take (i := 1) (v := ?_) rfl (by kernel_rfl) (by kernel_rfl) (by kernel_rfl) (by kernel_rfl) (fun _ _ _ h => h) (Or.inl ⟨by rfl, ?_⟩) HSd.out ?_
          rotate_left
          · (intro wq hSw; obtain ⟨q0, q1, q2, q3, q4, q5, q6, q7, q8, q9⟩ := hSw; go_simp; all_goals (first | (with_reducible rfl) | (rw [if_neg (by first | omega | (simp; omega) | (simp only [List.length_append, List.length_cons, List.length_nil]; omega))])))
          simp only [List.getElem_toArray, List.getElem_cons_succ, List.getElem_cons_zero, Act.put, List.setIfInBounds_toArray, List.set_cons_zero, List.set_cons_succ]
          refine wpT_take (i := 2) (v := ?_) rfl (by kernel_rfl) (by kernel_rfl) (by kernel_rfl) (by kernel_rfl) (fun _ _ _ h => h) (Or.inl ⟨by rfl, ?_⟩) HSd.out ?_
          rotate_left
          · (intro wq hSw; obtain ⟨q0, q1, q2, q3, q4, q5, q6, q7, q8, q9⟩ := hSw; go_simp; all_goals (first | (with_reducible rfl) | (rw [if_neg (by first | omega | (simp; omega) | (simp only [List.length_append, List.length_cons, List.length_nil]; omega))])))
          simp only [List.getElem_toArray, List.getElem_cons_succ, List.getElem_cons_zero, Act.put, List.setIfInBounds_toArray, List.set_cons_zero, List.set_cons_succ]
          refine wpT_take (i := 3) (v := ?_) rfl (by kernel_rfl) (by kernel_rfl) (by kernel_rfl) (by kernel_rfl) (fun _ _ _ h => h) (Or.inl ⟨by rfl, ?_⟩) HSd.out ?_
          rotate_left
          · (intro wq hSw; obtain ⟨q0, q1, q2, q3, q4, q5, q6, q7, q8, q9⟩ := hSw; go_simp; all_goals (first | (with_reducible rfl) | (rw [if_neg (by first | omega | (simp; omega) | (simp only [List.length_append, List.length_cons, List.length_nil]; omega))])))
          simp only [List.getElem_toArray, List.getElem_cons_succ, List.getElem_cons_zero, Act.put, List.setIfInBounds_toArray, List.set_cons_zero, List.set_cons_succ]
          refine wpT_take (i := 4) (v := ?_) rfl (by kernel_rfl) (by kernel_rfl) (by kernel_rfl) (by kernel_rfl) (fun _ _ _ h => h) (Or.inl ⟨by rfl, ?_⟩) HSd.out ?_
          rotate_left
          · (intro wq hSw; obtain ⟨q0, q1, q2, q3, q4, q5, q6, q7, q8, q9⟩ := hSw; go_simp; all_goals (first | (with_reducible rfl) | (rw [if_neg (by first | omega | (simp; omega) | (simp only [List.length_append, List.length_cons, List.length_nil]; omega))])))
          simp only [List.getElem_toArray, List.getElem_cons_succ, List.getElem_cons_zero, Act.put, List.setIfInBounds_toArray, List.set_cons_zero, List.set_cons_succ]
          refine wpT_one (i := 5) rfl (by kernel_rfl) fun K hK => ?_
          go_simp
          refine HCL.out.mono ?_
          rintro e w1 ⟨hq1, v', rfl, hUV⟩
          have hba1 : Below wa.heap.size wa w1 := chain (Below.refl wa.heap.size wa).drew hq1
          have hb1 : Below wr.heap.size wr w1 := chain hba hba1
          have hs1 := hb1.size
          have hs2 := hba1.size
          obtain ⟨lv2, kv2, rfl, m1, m2⟩ := hUV
          have M1 := Lib.hid (m1.keep (D' := fun k => (fun k => k < B ∨ (w.heap.size + 3 < k ∧ k ≠ G)) k ∧ (Value.slice Ak RQ.length ck).ownBlock ≠ some k) (fun _ _ _ => rfl) (fun k hk _ => HD.out k hk))
          have M2 := Lib.hid (m2.keep (D' := fun k => (fun k => k < B ∨ (w.heap.size + 3 < k ∧ k ≠ G)) k ∧ (Value.slice Ak RQ.length ck).ownBlock ≠ some k) (fun _ _ _ => rfl) (fun k hk _ => HD.out k hk))
          obtain ⟨D1, e1, rfl, -, -⟩ := m1
          obtain ⟨D2, e2, rfl, -, -⟩ := m2
          clear hq1 HCL
          refine hK.out _ _ (fun _ => HSB.out _ (Same.below hba1)) ?_
          clear hK K
          try simp only [List.getElem_toArray, List.getElem_cons_succ, List.getElem_cons_zero, Act.put, List.setIfInBounds_toArray, List.set_cons_zero, List.set_cons_succ]
          refine wpT_one (i := 6) rfl (by kernel_rfl) fun K hK => ?_
          go_simp
          have hbn : Below w1.heap.size w1 (w1.alloc (.cells #[.int .i64 U.kind, .string ⟨U.frm.toArray⟩, .string ⟨U.rcv.toArray⟩, .int .i64 U.sort, .string ⟨U.name.toArray⟩, .slice D1 U.labels.length e1, .slice D2 U.kids.length e2] 52)) := (Below.refl _ _).alloc (Nat.le_refl _) _
          have hsA := Below.trans hba1 ((Below.refl _ w1).alloc hs2 (.cells #[.int .i64 U.kind, .string ⟨U.frm.toArray⟩, .string ⟨U.rcv.toArray⟩, .int .i64 U.sort, .string ⟨U.name.toArray⟩, .slice D1 U.labels.length e1, .slice D2 U.kids.length e2] 52))
          have hbA : Below NN wr (w1.alloc (.cells #[.int .i64 U.kind, .string ⟨U.frm.toArray⟩, .string ⟨U.rcv.toArray⟩, .int .i64 U.sort, .string ⟨U.name.toArray⟩, .slice D1 U.labels.length e1, .slice D2 U.kids.length e2] 52)) := (hb1.mono hsN2).alloc (by omega) _
          have HCC : Hid (Cells7 (fun k => (fun k => k < B ∨ (w.heap.size + 3 < k ∧ k ≠ G)) k ∧ (Value.slice Ak RQ.length ck).ownBlock ≠ some k) (w1.alloc (.cells #[.int .i64 U.kind, .string ⟨U.frm.toArray⟩, .string ⟨U.rcv.toArray⟩, .int .i64 U.sort, .string ⟨U.name.toArray⟩, .slice D1 U.labels.length e1, .slice D2 U.kids.length e2] 52)) [.int .i64 U.kind, .string ⟨U.frm.toArray⟩, .string ⟨U.rcv.toArray⟩, .int .i64 U.sort, .string ⟨U.name.toArray⟩, .slice D1 U.labels.length e1, .slice D2 U.kids.length e2] [U]) := Lib.hid (.cons U _ _ [] [] (M1.out.keep (Same.below hbn) (fun _ h _ => h)) (M2.out.keep (Same.below hbn) (fun _ h _ => h)) .nil)
          have KR2 := (KRq.below hb1).below hbn
          refine hK.out _ _ (fun _ => HSB.out _ (Same.below hsA)) ?_
          clear hK K M1 M2
          try simp only [List.getElem_toArray, List.getElem_cons_succ, List.getElem_cons_zero, Act.put, List.setIfInBounds_toArray, List.set_cons_zero, List.set_cons_succ]
          refine wpT_one (i := 7) rfl (by kernel_rfl) fun K hK => ?_
          refine step_app rt_gls rfl (.tmp 38) (.tmp 43) rfl NN (.slice Ak RQ.length ck) RQ.length xs rfl KR2.kids ⟨w1.heap.size, 0, none⟩ 1 1 [.int .i64 U.kind, .string ⟨U.frm.toArray⟩, .string ⟨U.rcv.toArray⟩, .int .i64 U.sort, .string ⟨U.name.toArray⟩, .slice D1 U.labels.length e1, .slice D2 U.kids.length e2] rfl rfl (seven_new _ _ _ _ _ _ _ _ _) (by simp [Value.oneCell']) (by unfold maxLen; omega) (by omega) (by rw [World.size_alloc]; omega) (fun v3 w3 n1' n2' n3' n4' => ?_)
          have KR3 := KR2.kid HCC.out n1' n2' n3'
          have hb3 : Below NN wr w3 := hbA.trans n4'
          obtain ⟨Aw, cw, rfl⟩ := own_form n1'
          refine hK.out _ _ (fun _ => HSB.out _ (Same.trans (Same.below hsA) hsA.size (Same.grown n2' hne))) ?_
          clear hK K n1' n2' n3' n4' HCC KR2
          try simp only [List.getElem_toArray, List.getElem_cons_succ, List.getElem_cons_zero, Act.put, List.setIfInBounds_toArray, List.set_cons_zero, List.set_cons_succ]
          have GB3 := GBq.keep hb3 (by omega)
          obtain ⟨g0, g1, g2, g3, g4, g5, g6, g7, g8⟩ := id GB3
          refine wpT_one (i := 8) rfl (by kernel_rfl) fun K hK => ?_
          go_simp
          refine hK.out _ _ (fun h => absurd h (by decide)) ?_
          clear hK K
          try simp only [List.getElem_toArray, List.getElem_cons_succ, List.getElem_cons_zero, Act.put, List.setIfInBounds_toArray, List.set_cons_zero, List.set_cons_succ]
          refine wpT_one (i := 9) rfl (by kernel_rfl) fun K hK => ?_
          go_simp
          refine hK.out _ _ (fun h => absurd h (by decide)) ?_
          clear hK K
          try simp only [List.getElem_toArray, List.getElem_cons_succ, List.getElem_cons_zero, Act.put, List.setIfInBounds_toArray, List.set_cons_zero, List.set_cons_succ]
          refine wpT_done (by kernel_rfl) ?_
          have GB4 := GB3.put6 (.slice Aw (RQ.length + 1) cw)
          have KR4 := KR3.set (a := ⟨G, 6, none⟩) (by show ¬ (G < B ∨ (w.heap.size + 3 < G ∧ G ≠ G)); omega) (by show G < _; omega) (.slice Aw (RQ.length + 1) cw)
          have hb4 : Below G w2 (w3.setCell ⟨G, 6, none⟩ (.slice Aw (RQ.length + 1) cw)) := (hbN.trans (hb3.mono (by omega))).setCell (Nat.le_refl _) _
          have hs4 : NN ≤ (w3.setCell ⟨G, 6, none⟩ (.slice Aw (RQ.length + 1) cw)).heap.size := by rw [World.size_setCell]; have := hb3.size; omega
          generalize w3.setCell ⟨G, 6, none⟩ (.slice Aw (RQ.length + 1) cw) = w4 at GB4 KR4 hb4 hs4 ⊢
          clear g0 g1 g2 g3 g4 g5 g6 g7 g8 GB3 KR3 c0 c1 c2 c3 c4 c5 c6 HSd HSB
          go_wp2_with fail
          go_roundw
          case rel => exact ⟨j + 1, _, _, by omega, by go_num, GB4, by rw [e3.out]; exact KR4, hb4, hs4⟩
          case measure => simp [intOf]; omega
        · have hjL : j = ks.length := by omega
          subst hjL
          clear hlt
          rw [List.take_length] at HRQ
          have GZ3 := GZ2.keep hbN (by omega)
          obtain ⟨g0, g1, g2, g3, g4, g5, g6, g7, g8⟩ := id GBq
          obtain ⟨z0, z1, z2, z3, z4, z5, z6, z7, z8⟩ := id GZ3
          simp only [Gl.kind, Gl.frm, Gl.rcv, Gl.sort, Gl.name, zeroGl] at g0 g1 g2 g3 g4 z0 z1 z2 z3 z4
          have hbF : Below w.heap.size w wr := hb00.trans (hbN.mono (by omega))
          have K1 := KRq.strs (D' := (fun k => k < B ∨ (w.heap.size + 3 < k ∧ k ≠ G))) (fun _ h => h)
          have K2 := KRq.gls (D' := (fun k => k < B ∨ (w.heap.size + 3 < k ∧ k ≠ G))) (fun _ h => h) (fun b h => by show _ ∨ _; omega)
          go_wp2_with fail
          have GF := GZ3.fill (.mk k f2 o2 s n [] []) (.slice Al ls.length cl) (.slice Ak RQ.length ck)
          have hbG := below_fill7 hbF (b := w.heap.size + 1 + 1 + 1) (by omega) (.int .i64 k) (.string ⟨f2.toArray⟩) (.string ⟨o2.toArray⟩) (.int .i64 s) (.string ⟨n.toArray⟩) (.slice Al ls.length cl) (.slice Ak RQ.length ck)
          have hSF : Same (fun k => k < B ∨ (w.heap.size + 3 < k ∧ k ≠ G)) wr _ := Same.fill7 (b := w.heap.size + 1 + 1 + 1) (by show ¬ (_ ∨ _); omega) (.int .i64 k) (.string ⟨f2.toArray⟩) (.string ⟨o2.toArray⟩) (.int .i64 s) (.string ⟨n.toArray⟩) (.slice Al ls.length cl) (.slice Ak RQ.length ck)
          simp only [Gl.kind, Gl.frm, Gl.rcv, Gl.sort, Gl.name] at GF
          have K3 := K1.keep (D' := fun k => k < B ∨ w.heap.size ≤ k) hSF (fun k hk _ => by have : _ ∨ _ := hk; omega)
          have K4 := K2.keep (D' := fun k => k < B ∨ w.heap.size ≤ k) hSF (fun k hk _ => by have : _ ∨ _ := hk; omega)
          generalize (((((((wr.setCell ⟨w.heap.size + 1 + 1 + 1, 0, none⟩ (.int .i64 k)).setCell ⟨w.heap.size + 1 + 1 + 1, 1, none⟩ (.string ⟨f2.toArray⟩)).setCell ⟨w.heap.size + 1 + 1 + 1, 2, none⟩ (.string ⟨o2.toArray⟩)).setCell ⟨w.heap.size + 1 + 1 + 1, 3, none⟩ (.int .i64 s)).setCell ⟨w.heap.size + 1 + 1 + 1, 4, none⟩ (.string ⟨n.toArray⟩)).setCell ⟨w.heap.size + 1 + 1 + 1, 5, none⟩ (.slice Al ls.length cl)).setCell ⟨w.heap.size + 1 + 1 + 1, 6, none⟩ (.slice Ak RQ.length ck)) = wF at GF hbG K3 K4 ⊢
          clear hSF
          obtain ⟨d0, d1, d2, d3, d4, d5, d6, d7, d8⟩ := GF
          simp only [Gl.kind, Gl.frm, Gl.rcv, Gl.sort, Gl.name] at d0 d1 d2 d3 d4
          refine bodyPost_ret (v := .agg #[.int .i64 k, .string ⟨f2.toArray⟩, .string ⟨o2.toArray⟩, .int .i64 s, .string ⟨n.toArray⟩, .slice Al ls.length cl, .slice Ak RQ.length ck]) (by simp [results, Tryd.results69, go_sem, d0, d1, d2, d3, d4, d5, d6]) rfl ?_
          refine ⟨hbG, _, rfl, ?_⟩
          rw [HF2.out, HO2.out, HRQ.out]
          exact ⟨_, _, rfl, K3, K4⟩
  · go_simp
    have hq : Below w0.heap.size w0 (w0.alloc (.cells #[.int .i64 0, .string ⟨#[]⟩, .string ⟨#[]⟩, .int .i64 0, .string ⟨#[]⟩, .slice none 0 0, .slice none 0 0] 52)) := (Below.refl _ _).alloc (Nat.le_refl _) _
    have GB1 := new_gbox w0 52
    have hb1 := hb0.trans (hq.mono hs0)
    have hs1 := Nat.le_trans hs0 hq.size
    obtain ⟨G, hG⟩ : ∃ x, w0.heap.size = x := ⟨_, rfl⟩
    have hMG : w.heap.size + 3 < G := by omega
    rw [hG] at GB1 ⊢
    generalize w0.alloc (.cells #[.int .i64 0, .string ⟨#[]⟩, .string ⟨#[]⟩, .int .i64 0, .string ⟨#[]⟩, .slice none 0 0, .slice none 0 0] 52) = w1 at GB1 hb1 hs1 hq ⊢
    refine hK.out _ _ (fun _ => HSB.out _ hb1) ?_
    clear hK K hq hG
    try simp only [List.getElem_toArray, List.getElem_cons_succ, List.getElem_cons_zero, Act.put, List.setIfInBounds_toArray, List.set_cons_zero, List.set_cons_succ]
    refine wpT_one (i := 5) rfl (by kernel_rfl) fun K hK => ?_
    go_simp
    refine (HNM.out f w1 hb1).mono ?_
    rw [HF2.out]
    rintro e w2 ⟨rfl, hq⟩
    have hb2 := hb1.trans (hq.mono hs1)
    have hs2 := Nat.le_trans hs1 hq.size
    have GB2 := GB1.keep hq GB1.lt
    refine hK.out _ _ (fun _ => HSB.out _ hb2) ?_
    clear hK K hq
    try simp only [List.getElem_toArray, List.getElem_cons_succ, List.getElem_cons_zero, Act.put, List.setIfInBounds_toArray, List.set_cons_zero, List.set_cons_succ]
    refine wpT_one (i := 9) rfl (by kernel_rfl) fun K hK => ?_
    go_simp
    refine (HNM.out o w2 hb2).mono ?_
    rw [HO2.out]
    rintro e w3 ⟨rfl, hq⟩
    have hb3 := hb2.trans (hq.mono hs2)
    have hs3 := Nat.le_trans hs2 hq.size
    have GB3 := GB2.keep hq GB2.lt
    refine hK.out _ _ (fun _ => HSB.out _ hb3) ?_
    clear hK K hq
    try simp only [List.getElem_toArray, List.getElem_cons_succ, List.getElem_cons_zero, Act.put, List.setIfInBounds_toArray, List.set_cons_zero, List.set_cons_succ]
    refine wpT_one (i := 16) rfl (by kernel_rfl) fun K hK => ?_
    go_simp
    refine (HCL.out w3 hb3).mono ?_
    rintro e w4 ⟨vl, rfl, hown, hq⟩
    have hb4 := hb3.trans (hq.mono hs3)
    have hs4 := Nat.le_trans hs3 hq.size
    have GB4 := GB3.keep hq GB3.lt
    obtain ⟨Al, cl, rfl⟩ := own_form hown
    have LB4 : StrsD (fun k => w.heap.size + 3 < k ∧ k ≠ G) w4 (.slice Al ls.length cl) ls := own_strsD hown (fun k hk => ⟨by omega, by have := GB3.lt; omega⟩)
    refine hK.out _ _ (fun _ => HSB.out _ hb4) ?_
    clear hK K hq hown
    try simp only [List.getElem_toArray, List.getElem_cons_succ, List.getElem_cons_zero, Act.put, List.setIfInBounds_toArray, List.set_cons_zero, List.set_cons_succ]
    refine wpT_take (i := 17) (v := ?_) rfl (by kernel_rfl) (by kernel_rfl) (by kernel_rfl) (by kernel_rfl) (fun _ _ _ h => h) (Or.inl ⟨by rfl, ?_⟩) (HSB.out _ hb4) ?_
    rotate_left
    · (intro wq hSw; obtain ⟨q0, q1, q2, q3, q4, q5⟩ := hSw; go_simp; all_goals (first | (with_reducible rfl) | (rw [if_neg (by first | omega | (simp; omega) | (simp only [List.length_append, List.length_cons, List.length_nil]; omega))])))
    simp only [List.getElem_toArray, List.getElem_cons_succ, List.getElem_cons_zero, Act.put, List.setIfInBounds_toArray, List.set_cons_zero, List.set_cons_succ]
    obtain ⟨z0, z1, z2, z3, z4, z5, z6, z7, z8⟩ := id GB4
    simp only [Gl.kind, Gl.frm, Gl.rcv, Gl.sort, Gl.name, zeroGl] at z0 z1 z2 z3 z4
    refine wpT_one (i := 19) rfl (by kernel_rfl) fun K hK => ?_
    go_simp
    refine hK.out _ _ (fun h => absurd h (by decide)) ?_
    clear hK K
    try simp only [List.getElem_toArray, List.getElem_cons_succ, List.getElem_cons_zero, Act.put, List.setIfInBounds_toArray, List.set_cons_zero, List.set_cons_succ]
    refine wpT_done (by kernel_rfl) ?_
    have GB := GB4.fill (.mk k f2 o2 s n [] []) (.slice Al ls.length cl) (.slice none 0 0)
    have hbR := below_fill7 hb4 (b := G) (by omega) (.int .i64 k) (.string ⟨f2.toArray⟩) (.string ⟨o2.toArray⟩) (.int .i64 s) (.string ⟨n.toArray⟩) (.slice Al ls.length cl) (.slice none 0 0)
    have hLR := LB4.keep (D' := fun k => w.heap.size + 3 < k ∧ k ≠ G) (Same.fill7 (b := G) (fun h => h.2 rfl) (.int .i64 k) (.string ⟨f2.toArray⟩) (.string ⟨o2.toArray⟩) (.int .i64 s) (.string ⟨n.toArray⟩) (.slice Al ls.length cl) (.slice none 0 0)) (fun _ h _ => h)
    simp only [Gl.kind, Gl.frm, Gl.rcv, Gl.sort, Gl.name] at GB
    generalize (((((((w4.setCell ⟨G, 0, none⟩ (.int .i64 k)).setCell ⟨G, 1, none⟩ (.string ⟨f2.toArray⟩)).setCell ⟨G, 2, none⟩ (.string ⟨o2.toArray⟩)).setCell ⟨G, 3, none⟩ (.int .i64 s)).setCell ⟨G, 4, none⟩ (.string ⟨n.toArray⟩)).setCell ⟨G, 5, none⟩ (.slice Al ls.length cl)).setCell ⟨G, 6, none⟩ (.slice none 0 0)) = wr at GB hbR hLR ⊢
    clear z0 z1 z2 z3 z4 z5 z6 z7 z8
    have hGsz := GB.lt
    have hb00 : Below w.heap.size w wr := hbW.trans (hbR.mono (by omega))
    have GT2 := GT.keep hbR (by omega)
    have GZ2 := GZ.keep hbR (by omega)
    have X1 := (hbR.cell (p := ⟨w.heap.size + 1, 0, none⟩) (by show w.heap.size + 1 < _; omega)).trans BF
    have X2 := (hbR.cell (p := ⟨w.heap.size + 1 + 1, 0, none⟩) (by show w.heap.size + 1 + 1 < _; omega)).trans BT
    have HK2 := Lib.hid (HK.out.keep (HSm.out _ (fun _ h => h) wr hbR) (fun _ h _ => h))
    have HF3 := Lib.hid (HF.out.keep (HSm.out _ (fun _ h => h) wr hbR) (fun _ h _ => h))
    have HT3 := Lib.hid (HT.out.keep (HSm.out _ (fun _ h => h) wr hbR) (fun _ h _ => h))
    obtain ⟨NN, hNN⟩ : ∃ x, wr.heap.size = x := ⟨_, rfl⟩
    have KR0 : KRow wr (fun k => k < B ∨ (w.heap.size + 3 < k ∧ k ≠ G)) NN (.slice Al ls.length cl) (.slice none 0 0) ls [] [] := ⟨World.ownsRow_nil _ _ _ _, .nil, hLR.keep (Same.refl _ _) (fun k hk _ => ⟨.inr hk, fun e => by cases e⟩)⟩
    have x6 := GT2.c6
    clear hbR hLR GT GZ BF BT HK HF HT HSm HNM HCL HSB HL hbW hWs
    go_wp2_with fail
    obtain ⟨w2, rfl⟩ : ∃ x, x = wr := ⟨_, rfl⟩
    clear x6
    go_loopw [33] (fun i wr => ∃ (j : Nat) (kvq : Value) (xs : List Value), j ≤ ks.length ∧ i = .int .i64 j ∧ GBox wr G (.mk k f2 o2 s n [] []) (.slice Al ls.length cl) kvq ∧ KRow wr (fun k => k < B ∨ (w.heap.size + 3 < k ∧ k ≠ G)) NN (.slice Al ls.length cl) kvq ls (rnGs F T (ks.take j)) xs ∧ Below G w2 wr ∧ NN ≤ wr.heap.size) (fun i _ => ks.length - (intOf i).toNat)
    case atStart => exact ⟨0, _, [], by omega, rfl, GB, KR0, Below.refl _ _, by omega⟩
    case round =>
      obtain ⟨j, kvq, xs, hj, rfl, GBq, KRq, hbN, hsN2⟩ := hrel
      obtain ⟨RQ, hRQ⟩ : ∃ x, rnGs F T (ks.take j) = x := ⟨_, rfl⟩
      have hrq : RQ.length ≤ 6 := by rw [← hRQ, rnGs_length, List.length_take]; omega
      rw [hRQ] at KRq
      have HRQ := Lib.hid hRQ
      clear hRQ
      obtain ⟨Ak, ck, rfl⟩ := own_form KRq.kids
      by_cases hlt : j < ks.length
      · obtain ⟨c, hc⟩ : ∃ x, ks[j]? = some x := ⟨_, List.getElem?_eq_getElem hlt⟩
        have HC := Lib.hid hc
        obtain ⟨-, -, b, off, A1, n1, p1, A2, n2, p2, rfl, hbB, c0, c1, c2, c3, c4, c5, c6, hl', hk'⟩ := gkid_at HK2.out hc
        have HL' := Lib.hid hl'; have HK' := Lib.hid hk'; clear hl' hk' hc
        have hbB' : b < B := hbB
        replace c0 := (hbN.cell (p := ⟨b, off + j * 7, none⟩) (by show b < _; omega)).trans c0
        replace c1 := (hbN.cell (p := ⟨b, off + j * 7 + 1, none⟩) (by show b < _; omega)).trans c1
        replace c2 := (hbN.cell (p := ⟨b, off + j * 7 + 2, none⟩) (by show b < _; omega)).trans c2
        replace c3 := (hbN.cell (p := ⟨b, off + j * 7 + 3, none⟩) (by show b < _; omega)).trans c3
        replace c4 := (hbN.cell (p := ⟨b, off + j * 7 + 4, none⟩) (by show b < _; omega)).trans c4
        replace c5 := (hbN.cell (p := ⟨b, off + j * 7 + 5, none⟩) (by show b < _; omega)).trans c5
        replace c6 := (hbN.cell (p := ⟨b, off + j * 7 + 6, none⟩) (by show b < _; omega)).trans c6
        have x1 := (hbN.cell (p := ⟨w.heap.size + 1, 0, none⟩) (by show w.heap.size + 1 < _; omega)).trans X1
        have x2 := (hbN.cell (p := ⟨w.heap.size + 1 + 1, 0, none⟩) (by show w.heap.size + 1 + 1 < _; omega)).trans X2
        obtain ⟨wa, hwa⟩ : ∃ y, wr.alloc (.cells #[.int .i64 c.kind, .string ⟨c.frm.toArray⟩, .string ⟨c.rcv.toArray⟩, .int .i64 c.sort, .string ⟨c.name.toArray⟩, .slice A1 n1 p1, .slice A2 n2 p2] 52) = y := ⟨_, rfl⟩
        have hba : Below wr.heap.size wr wa := by subst hwa; exact (Below.refl _ _).alloc (Nat.le_refl _) _
        have hsa : wa.heap.size = wr.heap.size + 1 := by subst hwa; simp
        have hkb : GBox wa wr.heap.size c (.slice A1 n1 p1) (.slice A2 n2 p2) := by subst hwa; exact new_gval wr c (.slice A1 n1 p1) (.slice A2 n2 p2) 52
        obtain ⟨k0, k1, k2, k3, k4, k5, k6, k7, k8⟩ := id hkb
        have hS : ∀ w' : World, Same (fun b => b < NN ∨ b = wr.heap.size) wa w' → (fun w' : World => w'.cell? ⟨G, 6, none⟩ = some (.slice Ak RQ.length ck) ∧ w'.cell? ⟨w.heap.size + 1, 0, none⟩ = some (.slice AF L cF) ∧ w'.cell? ⟨w.heap.size + 1 + 1, 0, none⟩ = some (.slice AT L cT) ∧ w'.cell? ⟨wr.heap.size, 0, none⟩ = some (.int .i64 c.kind) ∧ w'.cell? ⟨wr.heap.size, 1, none⟩ = some (.string ⟨c.frm.toArray⟩) ∧ w'.cell? ⟨wr.heap.size, 2, none⟩ = some (.string ⟨c.rcv.toArray⟩) ∧ w'.cell? ⟨wr.heap.size, 3, none⟩ = some (.int .i64 c.sort) ∧ w'.cell? ⟨wr.heap.size, 4, none⟩ = some (.string ⟨c.name.toArray⟩) ∧ w'.cell? ⟨wr.heap.size, 5, none⟩ = some (.slice A1 n1 p1) ∧ w'.cell? ⟨wr.heap.size, 6, none⟩ = some (.slice A2 n2 p2)) w' := fun w' h => ⟨h.cell (by first | (left; omega) | (right; rfl)) (GBq.keep hba (by omega)).c6, h.cell (by first | (left; omega) | (right; rfl)) (cell_keep x1 hba), h.cell (by first | (left; omega) | (right; rfl)) (cell_keep x2 hba), h.cell (by first | (left; omega) | (right; rfl)) k0, h.cell (by first | (left; omega) | (right; rfl)) k1, h.cell (by first | (left; omega) | (right; rfl)) k2, h.cell (by first | (left; omega) | (right; rfl)) k3, h.cell (by first | (left; omega) | (right; rfl)) k4, h.cell (by first | (left; omega) | (right; rfl)) k5, h.cell (by first | (left; omega) | (right; rfl)) k6⟩
        have HSd := Lib.hid (hS wa.drew (fun _ _ _ => rfl))
        have HSB := Lib.hid hS; clear hS
        have hne : ∀ q, q < NN ∨ q = wr.heap.size → some q ≠ (Value.slice Ak RQ.length ck).ownBlock := fun q hq e => by
          obtain ⟨h1, h2⟩ := KRq.kids.lt q e.symm
          omega
        obtain ⟨U, hU⟩ : ∃ x, rnG F T c = x := ⟨_, rfl⟩
        have e3 : Hid (rnGs F T (ks.take (j + 1)) = RQ ++ [U]) := Lib.hid (by rw [rnGs_take HC.out, HRQ.out, hU])
        have hbd : Below G w2 wa.drew := (hbN.trans (hba.mono (by omega))).drew
        have hSm : ∀ (D : Blocks), (∀ b, D b → b < B) → Same D w2 wa.drew := fun D hD b hb _ => hbd.block b (by have := hD b hb; omega)
        have hcm := HKS.out c (mem_of_at HC.out)
        have hcall := ih c (.agg #[.int .i64 c.kind, .string ⟨c.frm.toArray⟩, .string ⟨c.rcv.toArray⟩, .int .i64 c.sort, .string ⟨c.name.toArray⟩, .slice A1 n1 p1, .slice A2 n2 p2]) (.slice AF L cF) (.slice AT L cT) wa.drew hcm.1 hcm.2 (by show B ≤ wa.heap.size; omega) (glV_of (HL'.out.keep (hSm _ fun _ h => h) (fun _ h _ => h)) (HK'.out.keep (hSm _ fun _ h => h) (fun _ h _ => h))) (HF3.out.keep (hSm _ fun _ h => h) (fun _ h _ => h)) (HT3.out.keep (hSm _ fun _ h => h) (fun _ h _ => h))
        unfold ASays at hcall
        rw [hU] at hcall
        have HCL := Lib.hid hcall
        clear hcall hU hSm hbd
        have HD : Hid (∀ k, (k < B ∨ wa.heap.size ≤ k) → (fun k => k < B ∨ (w.heap.size + 3 < k ∧ k ≠ G)) k ∧ (Value.slice Ak RQ.length ck).ownBlock ≠ some k) := Lib.hid (fun k hk => ⟨by show _ ∨ _; omega, fun e => by have := KRq.kids.lt k e; omega⟩)
        go_wp2_with fail
        try rw [hwa]
        clear hwa
        refine wp_region_T 8 (fun w' : World => w'.cell? ⟨G, 6, none⟩ = some (.slice Ak RQ.length ck) ∧ w'.cell? ⟨w.heap.size + 1, 0, none⟩ = some (.slice AF L cF) ∧ w'.cell? ⟨w.heap.size + 1 + 1, 0, none⟩ = some (.slice AT L cT) ∧ w'.cell? ⟨wr.heap.size, 0, none⟩ = some (.int .i64 c.kind) ∧ w'.cell? ⟨wr.heap.size, 1, none⟩ = some (.string ⟨c.frm.toArray⟩) ∧ w'.cell? ⟨wr.heap.size, 2, none⟩ = some (.string ⟨c.rcv.toArray⟩) ∧ w'.cell? ⟨wr.heap.size, 3, none⟩ = some (.int .i64 c.sort) ∧ w'.cell? ⟨wr.heap.size, 4, none⟩ = some (.string ⟨c.name.toArray⟩) ∧ w'.cell? ⟨wr.heap.size, 5, none⟩ = some (.slice A1 n1 p1) ∧ w'.cell? ⟨wr.heap.size, 6, none⟩ = some (.slice A2 n2 p2)) (by kernel_rfl) ?_
        refine wpT_take (i := 0) (v := ?_) rfl (by kernel_rfl) (by kernel_rfl) (by kernel_rfl) (by kernel_rfl) (fun _ _ _ h => h) (Or.inl ⟨by rfl, ?_⟩) HSd.out ?_
        rotate_left
        · (intro wq hSw; obtain ⟨q0, q1, q2, q3, q4, q5, q6, q7, q8, q9⟩ := hSw; go_simp; all_goals (first | (with_reducible rfl) | (rw [if_neg (by first | omega | (simp; omega) | (simp only [List.length_append, List.length_cons, List.length_nil]; omega))])))
        simp only [List.getElem_toArray, List.getElem_cons_succ, List.getElem_cons_zero, Act.put, List.setIfInBounds_toArray, List.set_cons_zero, List.set_cons_succ]
        refine wpT_take (i := 1) (v := ?_) rfl (by kernel_rfl) (by kernel_rfl) (by kernel_rfl) (by kernel_rfl) (fun _ _ _ h => h) (Or.inl ⟨by rfl, ?_⟩) HSd.out ?_
        rotate_left
        · (intro wq hSw; obtain ⟨q0, q1, q2, q3, q4, q5, q6, q7, q8, q9⟩ := hSw; go_simp; all_goals (first | (with_reducible rfl) | (rw [if_neg (by first | omega | (simp; omega) | (simp only [List.length_append, List.length_cons, List.length_nil]; omega))])))
        simp only [List.getElem_toArray, List.getElem_cons_succ, List.getElem_cons_zero, Act.put, List.setIfInBounds_toArray, List.set_cons_zero, List.set_cons_succ]
        refine wpT_take (i := 2) (v := ?_) rfl (by kernel_rfl) (by kernel_rfl) (by kernel_rfl) (by kernel_rfl) (fun _ _ _ h => h) (Or.inl ⟨by rfl, ?_⟩) HSd.out ?_
        rotate_left
        · (intro wq hSw; obtain ⟨q0, q1, q2, q3, q4, q5, q6, q7, q8, q9⟩ := hSw; go_simp; all_goals (first | (with_reducible rfl) | (rw [if_neg (by first | omega | (simp; omega) | (simp only [List.length_append, List.length_cons, List.length_nil]; omega))])))
        simp only [List.getElem_toArray, List.getElem_cons_succ, List.getElem_cons_zero, Act.put, List.setIfInBounds_toArray, List.set_cons_zero, List.set_cons_succ]
        refine wpT_take (i := 3) (v := ?_) rfl (by kernel_rfl) (by kernel_rfl) (by kernel_rfl) (by kernel_rfl) (fun _ _ _ h => h) (Or.inl ⟨by rfl, ?_⟩) HSd.out ?_
        rotate_left
        · (intro wq hSw; obtain ⟨q0, q1, q2, q3, q4, q5, q6, q7, q8, q9⟩ := hSw; go_simp; all_goals (first | (with_reducible rfl) | (rw [if_neg (by first | omega | (simp; omega) | (simp only [List.length_append, List.length_cons, List.length_nil]; omega))])))
        simp only [List.getElem_toArray, List.getElem_cons_succ, List.getElem_cons_zero, Act.put, List.setIfInBounds_toArray, List.set_cons_zero, List.set_cons_succ]
        refine wpT_take (i := 4) (v := ?_) rfl (by kernel_rfl) (by kernel_rfl) (by kernel_rfl) (by kernel_rfl) (fun _ _ _ h => h) (Or.inl ⟨by rfl, ?_⟩) HSd.out ?_
        rotate_left
        · (intro wq hSw; obtain ⟨q0, q1, q2, q3, q4, q5, q6, q7, q8, q9⟩ := hSw; go_simp; all_goals (first | (with_reducible rfl) | (rw [if_neg (by first | omega | (simp; omega) | (simp only [List.length_append, List.length_cons, List.length_nil]; omega))])))
        simp only [List.getElem_toArray, List.getElem_cons_succ, List.getElem_cons_zero, Act.put, List.setIfInBounds_toArray, List.set_cons_zero, List.set_cons_succ]
        refine wpT_one (i := 5) rfl (by kernel_rfl) fun K hK => ?_
        go_simp
        refine HCL.out.mono ?_
        rintro e w1 ⟨hq1, v', rfl, hUV⟩
        have hba1 : Below wa.heap.size wa w1 := chain (Below.refl wa.heap.size wa).drew hq1
        have hb1 : Below wr.heap.size wr w1 := chain hba hba1
        have hs1 := hb1.size
        have hs2 := hba1.size
        obtain ⟨lv2, kv2, rfl, m1, m2⟩ := hUV
        have M1 := Lib.hid (m1.keep (D' := fun k => (fun k => k < B ∨ (w.heap.size + 3 < k ∧ k ≠ G)) k ∧ (Value.slice Ak RQ.length ck).ownBlock ≠ some k) (fun _ _ _ => rfl) (fun k hk _ => HD.out k hk))
        have M2 := Lib.hid (m2.keep (D' := fun k => (fun k => k < B ∨ (w.heap.size + 3 < k ∧ k ≠ G)) k ∧ (Value.slice Ak RQ.length ck).ownBlock ≠ some k) (fun _ _ _ => rfl) (fun k hk _ => HD.out k hk))
        obtain ⟨D1, e1, rfl, -, -⟩ := m1
        obtain ⟨D2, e2, rfl, -, -⟩ := m2
        clear hq1 HCL
        refine hK.out _ _ (fun _ => HSB.out _ (Same.below hba1)) ?_
        clear hK K
        try simp only [List.getElem_toArray, List.getElem_cons_succ, List.getElem_cons_zero, Act.put, List.setIfInBounds_toArray, List.set_cons_zero, List.set_cons_succ]
        refine wpT_one (i := 6) rfl (by kernel_rfl) fun K hK => ?_
        go_simp
        have hbn : Below w1.heap.size w1 (w1.alloc (.cells #[.int .i64 U.kind, .string ⟨U.frm.toArray⟩, .string ⟨U.rcv.toArray⟩, .int .i64 U.sort, .string ⟨U.name.toArray⟩, .slice D1 U.labels.length e1, .slice D2 U.kids.length e2] 52)) := (Below.refl _ _).alloc (Nat.le_refl _) _
        have hsA := Below.trans hba1 ((Below.refl _ w1).alloc hs2 (.cells #[.int .i64 U.kind, .string ⟨U.frm.toArray⟩, .string ⟨U.rcv.toArray⟩, .int .i64 U.sort, .string ⟨U.name.toArray⟩, .slice D1 U.labels.length e1, .slice D2 U.kids.length e2] 52))
        have hbA : Below NN wr (w1.alloc (.cells #[.int .i64 U.kind, .string ⟨U.frm.toArray⟩, .string ⟨U.rcv.toArray⟩, .int .i64 U.sort, .string ⟨U.name.toArray⟩, .slice D1 U.labels.length e1, .slice D2 U.kids.length e2] 52)) := (hb1.mono hsN2).alloc (by omega) _
        have HCC : Hid (Cells7 (fun k => (fun k => k < B ∨ (w.heap.size + 3 < k ∧ k ≠ G)) k ∧ (Value.slice Ak RQ.length ck).ownBlock ≠ some k) (w1.alloc (.cells #[.int .i64 U.kind, .string ⟨U.frm.toArray⟩, .string ⟨U.rcv.toArray⟩, .int .i64 U.sort, .string ⟨U.name.toArray⟩, .slice D1 U.labels.length e1, .slice D2 U.kids.length e2] 52)) [.int .i64 U.kind, .string ⟨U.frm.toArray⟩, .string ⟨U.rcv.toArray⟩, .int .i64 U.sort, .string ⟨U.name.toArray⟩, .slice D1 U.labels.length e1, .slice D2 U.kids.length e2] [U]) := Lib.hid (.cons U _ _ [] [] (M1.out.keep (Same.below hbn) (fun _ h _ => h)) (M2.out.keep (Same.below hbn) (fun _ h _ => h)) .nil)
        have KR2 := (KRq.below hb1).below hbn
        refine hK.out _ _ (fun _ => HSB.out _ (Same.below hsA)) ?_
        clear hK K M1 M2
        try simp only [List.getElem_toArray, List.getElem_cons_succ, List.getElem_cons_zero, Act.put, List.setIfInBounds_toArray, List.set_cons_zero, List.set_cons_succ]
        refine wpT_one (i := 7) rfl (by kernel_rfl) fun K hK => ?_
        refine step_app rt_gls rfl (.tmp 38) (.tmp 43) rfl NN (.slice Ak RQ.length ck) RQ.length xs rfl KR2.kids ⟨w1.heap.size, 0, none⟩ 1 1 [.int .i64 U.kind, .string ⟨U.frm.toArray⟩, .string ⟨U.rcv.toArray⟩, .int .i64 U.sort, .string ⟨U.name.toArray⟩, .slice D1 U.labels.length e1, .slice D2 U.kids.length e2] rfl rfl (seven_new _ _ _ _ _ _ _ _ _) (by simp [Value.oneCell']) (by unfold maxLen; omega) (by omega) (by rw [World.size_alloc]; omega) (fun v3 w3 n1' n2' n3' n4' => ?_)
        have KR3 := KR2.kid HCC.out n1' n2' n3'
        have hb3 : Below NN wr w3 := hbA.trans n4'
        obtain ⟨Aw, cw, rfl⟩ := own_form n1'
        refine hK.out _ _ (fun _ => HSB.out _ (Same.trans (Same.below hsA) hsA.size (Same.grown n2' hne))) ?_
        clear hK K n1' n2' n3' n4' HCC KR2
        try simp only [List.getElem_toArray, List.getElem_cons_succ, List.getElem_cons_zero, Act.put, List.setIfInBounds_toArray, List.set_cons_zero, List.set_cons_succ]
        have GB3 := GBq.keep hb3 (by omega)
        obtain ⟨g0, g1, g2, g3, g4, g5, g6, g7, g8⟩ := id GB3
        refine wpT_one (i := 8) rfl (by kernel_rfl) fun K hK => ?_
        go_simp
        refine hK.out _ _ (fun h => absurd h (by decide)) ?_
        clear hK K
        try simp only [List.getElem_toArray, List.getElem_cons_succ, List.getElem_cons_zero, Act.put, List.setIfInBounds_toArray, List.set_cons_zero, List.set_cons_succ]
        refine wpT_one (i := 9) rfl (by kernel_rfl) fun K hK => ?_
        go_simp
        refine hK.out _ _ (fun h => absurd h (by decide)) ?_
        clear hK K
        try simp only [List.getElem_toArray, List.getElem_cons_succ, List.getElem_cons_zero, Act.put, List.setIfInBounds_toArray, List.set_cons_zero, List.set_cons_succ]
        refine wpT_done (by kernel_rfl) ?_
        have GB4 := GB3.put6 (.slice Aw (RQ.length + 1) cw)
        have KR4 := KR3.set (a := ⟨G, 6, none⟩) (by show ¬ (G < B ∨ (w.heap.size + 3 < G ∧ G ≠ G)); omega) (by show G < _; omega) (.slice Aw (RQ.length + 1) cw)
        have hb4 : Below G w2 (w3.setCell ⟨G, 6, none⟩ (.slice Aw (RQ.length + 1) cw)) := (hbN.trans (hb3.mono (by omega))).setCell (Nat.le_refl _) _
        have hs4 : NN ≤ (w3.setCell ⟨G, 6, none⟩ (.slice Aw (RQ.length + 1) cw)).heap.size := by rw [World.size_setCell]; have := hb3.size; omega
        generalize w3.setCell ⟨G, 6, none⟩ (.slice Aw (RQ.length + 1) cw) = w4 at GB4 KR4 hb4 hs4 ⊢
        clear g0 g1 g2 g3 g4 g5 g6 g7 g8 GB3 KR3 c0 c1 c2 c3 c4 c5 c6 HSd HSB
        go_wp2_with fail
        go_roundw
        case rel => exact ⟨j + 1, _, _, by omega, by go_num, GB4, by rw [e3.out]; exact KR4, hb4, hs4⟩
        case measure => simp [intOf]; omega
      · have hjL : j = ks.length := by omega
        subst hjL
        clear hlt
        rw [List.take_length] at HRQ
        have GZ3 := GZ2.keep hbN (by omega)
        obtain ⟨g0, g1, g2, g3, g4, g5, g6, g7, g8⟩ := id GBq
        obtain ⟨z0, z1, z2, z3, z4, z5, z6, z7, z8⟩ := id GZ3
        simp only [Gl.kind, Gl.frm, Gl.rcv, Gl.sort, Gl.name, zeroGl] at g0 g1 g2 g3 g4 z0 z1 z2 z3 z4
        have hbF : Below w.heap.size w wr := hb00.trans (hbN.mono (by omega))
        have K1 := KRq.strs (D' := (fun k => k < B ∨ (w.heap.size + 3 < k ∧ k ≠ G))) (fun _ h => h)
        have K2 := KRq.gls (D' := (fun k => k < B ∨ (w.heap.size + 3 < k ∧ k ≠ G))) (fun _ h => h) (fun b h => by show _ ∨ _; omega)
        go_wp2_with fail
        have GF := GZ3.fill (.mk k f2 o2 s n [] []) (.slice Al ls.length cl) (.slice Ak RQ.length ck)
        have hbG := below_fill7 hbF (b := w.heap.size + 1 + 1 + 1) (by omega) (.int .i64 k) (.string ⟨f2.toArray⟩) (.string ⟨o2.toArray⟩) (.int .i64 s) (.string ⟨n.toArray⟩) (.slice Al ls.length cl) (.slice Ak RQ.length ck)
        have hSF : Same (fun k => k < B ∨ (w.heap.size + 3 < k ∧ k ≠ G)) wr _ := Same.fill7 (b := w.heap.size + 1 + 1 + 1) (by show ¬ (_ ∨ _); omega) (.int .i64 k) (.string ⟨f2.toArray⟩) (.string ⟨o2.toArray⟩) (.int .i64 s) (.string ⟨n.toArray⟩) (.slice Al ls.length cl) (.slice Ak RQ.length ck)
        simp only [Gl.kind, Gl.frm, Gl.rcv, Gl.sort, Gl.name] at GF
        have K3 := K1.keep (D' := fun k => k < B ∨ w.heap.size ≤ k) hSF (fun k hk _ => by have : _ ∨ _ := hk; omega)
        have K4 := K2.keep (D' := fun k => k < B ∨ w.heap.size ≤ k) hSF (fun k hk _ => by have : _ ∨ _ := hk; omega)
        generalize (((((((wr.setCell ⟨w.heap.size + 1 + 1 + 1, 0, none⟩ (.int .i64 k)).setCell ⟨w.heap.size + 1 + 1 + 1, 1, none⟩ (.string ⟨f2.toArray⟩)).setCell ⟨w.heap.size + 1 + 1 + 1, 2, none⟩ (.string ⟨o2.toArray⟩)).setCell ⟨w.heap.size + 1 + 1 + 1, 3, none⟩ (.int .i64 s)).setCell ⟨w.heap.size + 1 + 1 + 1, 4, none⟩ (.string ⟨n.toArray⟩)).setCell ⟨w.heap.size + 1 + 1 + 1, 5, none⟩ (.slice Al ls.length cl)).setCell ⟨w.heap.size + 1 + 1 + 1, 6, none⟩ (.slice Ak RQ.length ck)) = wF at GF hbG K3 K4 ⊢
        clear hSF
        obtain ⟨d0, d1, d2, d3, d4, d5, d6, d7, d8⟩ := GF
        simp only [Gl.kind, Gl.frm, Gl.rcv, Gl.sort, Gl.name] at d0 d1 d2 d3 d4
        refine bodyPost_ret (v := .agg #[.int .i64 k, .string ⟨f2.toArray⟩, .string ⟨o2.toArray⟩, .int .i64 s, .string ⟨n.toArray⟩, .slice Al ls.length cl, .slice Ak RQ.length ck]) (by simp [results, Tryd.results69, go_sem, d0, d1, d2, d3, d4, d5, d6]) rfl ?_
        refine ⟨hbG, _, rfl, ?_⟩
        rw [HF2.out, HO2.out, HRQ.out]
        exact ⟨_, _, rfl, K3, K4⟩
end Go.Proofs.YtgnkncfnkjeinaaDoor
