/-
  What is put in the place of a name: types.put and types.twin.
-/
import Derived.Test.YtcacembpegoghaaDoorTyPut
namespace Go.Proofs.YtcacembpegoghaaDoor
open Go.RowKit Go.Proofs
set_option maxRecDepth 100000
/-- slices.Clone of a slice of texts. -/
theorem clone_any {D : Blocks} {w : World} {v : Value} {l : List Str} (h : StrsD D w v l) (hl : l.length ≤ 1000) :
    Calls Tryd.prog 147 #[v] w fun e w' => ∃ v', e = .returned v' ∧ StrsD (fun b => w.heap.size ≤ b) w' v' l ∧ Below w.heap.size w w' := by
  obtain ⟨A, cap, rfl, hc, h3⟩ := h
  cases A with
  | none =>
    have h0 : l = [] := by
      rcases Nat.eq_zero_or_pos l.length with h | h
      · exact List.eq_nil_of_length_eq_zero h
      · obtain ⟨b, off, e, _⟩ := h3 h
        cases e
    subst h0
    refine (Tryd.slices_Clone_string_nil _ _ w).mono ?_
    rintro e w' ⟨rfl, rfl⟩
    exact ⟨_, rfl, ⟨none, 0, rfl, Nat.le_refl _, fun h => by simp at h⟩, Below.refl _ _⟩
  | some a =>
    rcases Nat.eq_zero_or_pos l.length with h | h
    · have h0 := List.eq_nil_of_length_eq_zero h
      subst h0
      refine (Tryd.slices_Clone_string_zero a cap w).mono ?_
      rintro e w' ⟨v', rfl, hown, _, hb⟩
      obtain ⟨A, cap', rfl⟩ := own_form hown
      refine ⟨_, rfl, ⟨A, cap', rfl, by simp, fun h => by simp at h⟩, hb⟩
    · obtain ⟨b, off, e, _, hr⟩ := h3 h
      cases e
      refine (Tryd.slices_Clone_string b off l.length cap (l.map fun s => ⟨s.toArray⟩) w (by simp) (by omega) ?_).mono ?_
      · intro j hj
        have hj' : j < l.length := by simpa using hj
        rw [hr j l[j] (by simp [hj'])]
        simp [List.getD, hj']
      · rintro e w' ⟨v', rfl, hown, _, hb⟩
        rw [List.take_of_length_le (by simp)] at hown
        have hcells := fun g => hown.cells (g := g)
        rcases hown.2 with ⟨rfl, h0⟩ | ⟨g, cap', cur, rfl, hg, _, hn, _⟩
        · omega
        · refine ⟨_, rfl, ⟨_, cap', rfl, hn, fun _ => ⟨g, 0, rfl, hg, fun i s hi => ?_⟩⟩, hb⟩
          have := hcells g rfl i (.string ⟨s.toArray⟩) (by simp [hi])
          rw [Go.WideShapes.add_plain] at this
          exact this

set_option maxHeartbeats 2000000 in
theorem put_c (m : Nat) (B0 : Blocks) (s : Ty) (vs : Value) (x : Str) (ih : ∀ (t : Ty) (v : Value) (w : World), parts t ≤ m → (∀ b, B0 b → b < w.heap.size) → TyD B0 w v t → Good t → TyD B0 w vs s → PutSays 118 B0 t s v vs x w)
    (t : Ty) (v : Value) (w : World) (hm : parts t ≤ m + 1) (hB : ∀ b, B0 b → b < w.heap.size) (hv : TyD B0 w v t) (hg : Good t) (hvs : TyD B0 w vs s) (hans : sub x s t = .mk t.kind t.sort t.name t.labels (subs x s t.kids)) (h9 : (t.kind == 9) = false) (h8 : (t.kind == 8) = false) :
    PutSays 118 B0 t s v vs x w := by
  unfold PutSays
  rw [hans]
  clear hans
  obtain ⟨lv, kv, rfl, h1, h2⟩ := hv
  have HV := Lib.hid h1
  have HK := Lib.hid h2
  obtain ⟨A0, p0, rfl, -, -⟩ := h1
  obtain ⟨A, cap, rfl, -, -⟩ := h2
  have HS := Lib.hid hvs
  obtain ⟨lv', kv', rfl, h3, h4⟩ := hvs
  obtain ⟨A0', p0', rfl, -, -⟩ := h3
  obtain ⟨A', cap', rfl, -, -⟩ := h4
  have hkl := hg.small.2.2.2
  obtain ⟨ks, hks⟩ : ∃ x, t.kids = x := ⟨_, rfl⟩
  have HG : Hid (∀ c ∈ ks, Good c) := by have := hg.kid; rw [hks] at this; exact this
  have HP : Hid (1 + partss ks ≤ m + 1) := by cases t; subst hks; exact hm
  have HKs := Lib.hid hks
  rw [hks] at HK hkl ⊢
  obtain ⟨L, hL⟩ : ∃ x, ks.length = x := ⟨_, rfl⟩
  have HL := Lib.hid hL
  rw [hL] at HK hkl ⊢
  obtain ⟨L0, hL0⟩ : ∃ x, t.labels.length = x := ⟨_, rfl⟩
  rw [hL0] at HV ⊢
  have HL0 := Lib.hid hL0
  have hL6 : L0 ≤ 6 := by rw [← hL0]; exact hg.small.2.1
  clear hL hm hL0 hks
  go_enter Tryd.func118, Tryd.ntmps118
  go_wp2_with fail
  obtain ⟨W, hW⟩ : ∃ W, ((w.alloc (.cells #[.int .i64 t.kind, .int .i64 t.sort, .string ⟨t.name.toArray⟩, .slice A0 L0 p0, .slice A L cap] 51)).alloc (.cells #[.int .i64 s.kind, .int .i64 s.sort, .string ⟨s.name.toArray⟩, .slice A0' s.labels.length p0', .slice A' s.kids.length cap'] 51)).alloc (.cells #[.int .i64 0, .int .i64 0, .string ⟨#[]⟩, .slice none 0 0, .slice none 0 0] 51) = W := ⟨_, rfl⟩
  have hTB : VBox W w.heap.size t (.slice A0 L0 p0) (.slice A L cap) := by subst hW; exact ⟨by simp [go_sem], by simp [go_sem], by simp [go_sem], by simp [go_sem], by simp [go_sem], fun j => by simp [go_sem], by simp; omega⟩
  have hSB : VBox W (w.heap.size + 1) s (.slice A0' s.labels.length p0') (.slice A' s.kids.length cap') := by subst hW; exact ⟨by simp [go_sem], by simp [go_sem], by simp [go_sem], by simp [go_sem], by simp [go_sem], fun j => by simp [go_sem], by simp⟩
  have hRB : VBox W (w.heap.size + 1 + 1) (.mk 0 0 [] [] []) (.slice none 0 0) (.slice none 0 0) := by subst hW; exact ⟨by simp [go_sem]; rfl, by simp [go_sem]; rfl, by simp [go_sem]; rfl, by simp [go_sem], by simp [go_sem], fun j => by simp [go_sem], by simp⟩
  have hbW : Below w.heap.size w W := by subst hW; go_grown
  have hWs : W.heap.size = w.heap.size + 1 + 1 + 1 := by subst hW; simp
  rw [hW]
  clear hW
  obtain ⟨t0, t1, t2, t3, t4, t5, t6⟩ := id hTB
  have hS : ∀ w' : World, Below W.heap.size W w' → (fun w' : World => w'.cell? ⟨w.heap.size, 0, none⟩ = some (.int .i64 t.kind) ∧ w'.cell? ⟨w.heap.size, 1, none⟩ = some (.int .i64 t.sort) ∧ w'.cell? ⟨w.heap.size, 2, none⟩ = some (.string ⟨t.name.toArray⟩) ∧ w'.cell? ⟨w.heap.size, 3, none⟩ = some (.slice A0 L0 p0)) w' := fun w' h => ⟨(h.cell (p := ⟨w.heap.size, 0, none⟩) t6).trans t0, (h.cell (p := ⟨w.heap.size, 1, none⟩) t6).trans t1, (h.cell (p := ⟨w.heap.size, 2, none⟩) t6).trans t2, (h.cell (p := ⟨w.heap.size, 3, none⟩) t6).trans t3⟩
  have HSd := Lib.hid (hS W.drew (Below.refl _ _).drew)
  have HSB := Lib.hid hS; clear hS
  refine wp_region_T 11 (fun w' : World => w'.cell? ⟨w.heap.size, 0, none⟩ = some (.int .i64 t.kind) ∧ w'.cell? ⟨w.heap.size, 1, none⟩ = some (.int .i64 t.sort) ∧ w'.cell? ⟨w.heap.size, 2, none⟩ = some (.string ⟨t.name.toArray⟩) ∧ w'.cell? ⟨w.heap.size, 3, none⟩ = some (.slice A0 L0 p0)) (by kernel_rfl) ?_
  refine wpT_take (i := 0) (v := ?_) rfl (by kernel_rfl) (by kernel_rfl) (by kernel_rfl) (by kernel_rfl) (fun _ _ _ h => h) (Or.inl ⟨by rfl, ?_⟩) HSd.out ?_
  rotate_left
  · (intro wq hSw; obtain ⟨q0, q1, q2, q3⟩ := hSw; go_simp; all_goals (with_reducible rfl))
  simp only [List.getElem_toArray, List.getElem_cons_succ, List.getElem_cons_zero, Act.put, List.setIfInBounds_toArray, List.set_cons_zero, List.set_cons_succ]
  refine wpT_take (i := 1) (v := ?_) rfl (by kernel_rfl) (by kernel_rfl) (by kernel_rfl) (by kernel_rfl) (fun _ _ _ h => h) (Or.inl ⟨by rfl, ?_⟩) HSd.out ?_
  rotate_left
  · (intro wq hSw; obtain ⟨q0, q1, q2, q3⟩ := hSw; go_simp; all_goals (with_reducible rfl))
  simp only [List.getElem_toArray, List.getElem_cons_succ, List.getElem_cons_zero, Act.put, List.setIfInBounds_toArray, List.set_cons_zero, List.set_cons_succ]
  refine wpT_take (i := 2) (v := ?_) rfl (by kernel_rfl) (by kernel_rfl) (by kernel_rfl) (by kernel_rfl) (fun _ _ _ h => h) (Or.inl ⟨by rfl, ?_⟩) HSd.out ?_
  rotate_left
  · (intro wq hSw; obtain ⟨q0, q1, q2, q3⟩ := hSw; go_simp; all_goals (with_reducible rfl))
  simp only [List.getElem_toArray, List.getElem_cons_succ, List.getElem_cons_zero, Act.put, List.setIfInBounds_toArray, List.set_cons_zero, List.set_cons_succ]
  refine wpT_take (i := 3) (v := ?_) rfl (by kernel_rfl) (by kernel_rfl) (by kernel_rfl) (by kernel_rfl) (fun _ _ _ h => h) (Or.inl ⟨by rfl, ?_⟩) HSd.out ?_
  rotate_left
  · (intro wq hSw; obtain ⟨q0, q1, q2, q3⟩ := hSw; go_simp; all_goals (with_reducible rfl))
  simp only [List.getElem_toArray, List.getElem_cons_succ, List.getElem_cons_zero, Act.put, List.setIfInBounds_toArray, List.set_cons_zero, List.set_cons_succ]
  refine wpT_take (i := 4) (v := ?_) rfl (by kernel_rfl) (by kernel_rfl) (by kernel_rfl) (by kernel_rfl) (fun _ _ _ h => h) (Or.inl ⟨by rfl, ?_⟩) HSd.out ?_
  rotate_left
  · (intro wq hSw; obtain ⟨q0, q1, q2, q3⟩ := hSw; go_simp; all_goals (with_reducible rfl))
  simp only [List.getElem_toArray, List.getElem_cons_succ, List.getElem_cons_zero, Act.put, List.setIfInBounds_toArray, List.set_cons_zero, List.set_cons_succ]
  refine wpT_take (i := 5) (v := ?_) rfl (by kernel_rfl) (by kernel_rfl) (by kernel_rfl) (by kernel_rfl) (fun _ _ _ h => h) (Or.inl ⟨by rfl, ?_⟩) HSd.out ?_
  rotate_left
  · (intro wq hSw; obtain ⟨q0, q1, q2, q3⟩ := hSw; go_simp; all_goals (with_reducible rfl))
  simp only [List.getElem_toArray, List.getElem_cons_succ, List.getElem_cons_zero, Act.put, List.setIfInBounds_toArray, List.set_cons_zero, List.set_cons_succ]
  refine wpT_take (i := 6) (v := ?_) rfl (by kernel_rfl) (by kernel_rfl) (by kernel_rfl) (by kernel_rfl) (fun _ _ _ h => h) (Or.inl ⟨by rfl, ?_⟩) HSd.out ?_
  rotate_left
  · (intro wq hSw; obtain ⟨q0, q1, q2, q3⟩ := hSw; go_simp; all_goals (with_reducible rfl))
  simp only [List.getElem_toArray, List.getElem_cons_succ, List.getElem_cons_zero, Act.put, List.setIfInBounds_toArray, List.set_cons_zero, List.set_cons_succ]
  refine wpT_take (i := 7) (v := ?_) rfl (by kernel_rfl) (by kernel_rfl) (by kernel_rfl) (by kernel_rfl) (fun _ _ _ h => h) (Or.inl ⟨by rfl, ?_⟩) HSd.out ?_
  rotate_left
  · (intro wq hSw; obtain ⟨q0, q1, q2, q3⟩ := hSw; go_simp; all_goals (with_reducible rfl))
  simp only [List.getElem_toArray, List.getElem_cons_succ, List.getElem_cons_zero, Act.put, List.setIfInBounds_toArray, List.set_cons_zero, List.set_cons_succ]
  refine wpT_two (i := 8) (j := 10) rfl rfl (by kernel_rfl) (fun K hK => ?_) (fun K hK => ?_)
  · go_simp
    refine (clone_any (HV.out.keep (w' := W.drew) (Same.below hbW.drew) (fun b h _ => h)) (by rw [HL0.out]; omega)).mono ?_
    rintro e w1 ⟨v', rfl, hl1, hb1⟩
    have hb1' : Below W.heap.size W w1 := chain ((Below.refl _ _).drew) hb1
    have HL1 := Lib.hid hl1
    obtain ⟨A0x, p0x, rfl, -, -⟩ := hl1
    rw [HL0.out] at HL1 ⊢
    refine hK.out _ _ (fun _ => HSB.out w1 hb1') ?_
    clear hK K
    try simp only [List.getElem_toArray, List.getElem_cons_succ, List.getElem_cons_zero, Act.put, List.setIfInBounds_toArray, List.set_cons_zero, List.set_cons_succ]
    refine wpT_take (i := 9) (v := ?_) rfl (by kernel_rfl) (by kernel_rfl) (by kernel_rfl) (by kernel_rfl) (fun _ _ _ h => h) (Or.inl ⟨by rfl, ?_⟩) (HSB.out w1 hb1') ?_
    rotate_left
    · (intro wq hSw; obtain ⟨q0, q1, q2, q3⟩ := hSw; go_simp; all_goals (with_reducible rfl))
    try simp only [List.getElem_toArray, List.getElem_cons_succ, List.getElem_cons_zero, Act.put, List.setIfInBounds_toArray, List.set_cons_zero, List.set_cons_succ]
    refine wpT_one (i := 10) rfl (by kernel_rfl) fun K hK => ?_
    go_simp
    refine hK.out _ _ (fun _ => HSB.out _ (hb1'.alloc hb1'.size _)) ?_
    clear hK K
    try simp only [List.getElem_toArray, List.getElem_cons_succ, List.getElem_cons_zero, Act.put, List.setIfInBounds_toArray, List.set_cons_zero, List.set_cons_succ]
    refine wpT_one (i := 11) rfl (by kernel_rfl) fun K hK => ?_
    go_simp
    refine hK.out _ _ (fun h => absurd h (by decide)) ?_
    clear hK K
    try simp only [List.getElem_toArray, List.getElem_cons_succ, List.getElem_cons_zero, Act.put, List.setIfInBounds_toArray, List.set_cons_zero, List.set_cons_succ]
    refine wpT_done (by kernel_rfl) ?_
    have hs1 := hb1'.size
    have hb2 : Below W.heap.size W (w1.alloc (.cells #[.int .i64 t.kind, .int .i64 t.sort, .string ⟨t.name.toArray⟩, .slice A0x L0 p0x, .slice none 0 0] 51)) := hb1'.alloc hb1'.size _
    have hOB : VBox (w1.alloc (.cells #[.int .i64 t.kind, .int .i64 t.sort, .string ⟨t.name.toArray⟩, .slice A0x L0 p0x, .slice none 0 0] 51)) w1.heap.size t (.slice A0x L0 p0x) (.slice none 0 0) := ⟨by simp [go_sem], by simp [go_sem], by simp [go_sem], by simp [go_sem], by simp [go_sem], fun j => by simp [go_sem], by simp⟩
    have hlab : StrsD (fun b => w.heap.size + 1 + 1 + 1 ≤ b ∧ b ≠ w1.heap.size) (w1.alloc (.cells #[.int .i64 t.kind, .int .i64 t.sort, .string ⟨t.name.toArray⟩, .slice A0x L0 p0x, .slice none 0 0] 51)) (.slice A0x L0 p0x) t.labels := HL1.out.keep (Same.below ((Below.refl _ _).alloc (Nat.le_refl _) _)) (fun b h hl => ⟨by have h' : W.heap.size ≤ b := h; omega, by omega⟩)
    have hbo : w.heap.size + 1 + 1 + 1 ≤ w1.heap.size := by omega
    generalize w1.alloc (.cells #[.int .i64 t.kind, .int .i64 t.sort, .string ⟨t.name.toArray⟩, .slice A0x L0 p0x, .slice none 0 0] 51) = W2 at hb2 hOB hlab ⊢
    obtain ⟨bo, hboe⟩ : ∃ x, w1.heap.size = x := ⟨_, rfl⟩
    rw [hboe] at hOB hlab hbo ⊢
    clear hboe hs1 hb1 hb1'
    have hT2 := hTB.keep hb2 hTB.lt
    have hS2 := hSB.keep hb2 hSB.lt
    have hR2 := hRB.keep hb2 hRB.lt
    have hbw : Below w.heap.size w W2 := chain hbW hb2
    have hBb : w.heap.size + 1 + 1 + 1 ≤ W2.heap.size := by have := hb2.size; omega
    clear hTB hSB hRB hb2 hWs hbW HSB HSd HL1 t0 t1 t2 t3 t4 t5 t6
    clear W
    obtain ⟨t0, t1, t2, t3, t4, t5, t6⟩ := hT2
    obtain ⟨N0, hN0⟩ : ∃ x, W2.heap.size = x := ⟨_, rfl⟩
    have hbN : bo < N0 := by rw [← hN0]; exact hOB.lt
    have hBN : w.heap.size + 1 + 1 + 1 ≤ N0 := by omega
    have hlabN : StrsD (fun b => w.heap.size + 1 + 1 + 1 ≤ b ∧ b ≠ bo ∧ b < N0) W2 (.slice A0x L0 p0x) t.labels := hlab.keep (fun _ _ _ => rfl) (fun b h hl => ⟨h.1, h.2, by omega⟩)
    clear hlab hBb
    go_wp2_with fail
    clear t0 t1 t2 t3 t4 t5 t6
    go_loopw [47] (fun i wr => ∃ (k : Nat) (rv : Value) (xs : List Value), k ≤ L ∧ i = .int .i64 k ∧ VBox wr (w.heap.size + 1) s (.slice A0' s.labels.length p0') (.slice A' s.kids.length cap') ∧ VBox wr (w.heap.size + 1 + 1) (.mk 0 0 [] [] []) (.slice none 0 0) (.slice none 0 0) ∧ VBox wr bo t (.slice A0x L0 p0x) rv ∧
      wr.ownsRow N0 51 5 rv k xs ∧ Cells5D (fun b => Out B0 N0 b ∧ some b ≠ rv.ownBlock) wr xs (subs x s (ks.take k)) ∧ StrsD (fun b => w.heap.size + 1 + 1 + 1 ≤ b ∧ b ≠ bo ∧ b < N0) wr (.slice A0x L0 p0x) t.labels ∧ Below w.heap.size w wr ∧ N0 ≤ wr.heap.size) (fun i _ => L - (intOf i).toNat)
    case atStart => exact ⟨0, .slice none 0 0, [], by omega, rfl, hS2, hR2, hOB, World.ownsRow_nil _ _ _ _, .nil, hlabN, hbw, by omega⟩
    case round =>
      clear hS2 hR2 hOB hlabN hbw hN0
      clear W2
      obtain ⟨k, rv, xs, hk, rfl, hSB, hRB, hOB, hown, hcells, hlab, hb, hNr⟩ := hrel
      by_cases hlt : k < L
      · obtain ⟨c, hc⟩ : ∃ x, ks[k]? = some x := ⟨_, List.getElem?_eq_getElem (by rw [HL.out]; exact hlt)⟩
        have HC := Lib.hid hc
        have hkid := kid_atD (HK.out.keep (D' := B0) (Same.below hb) (fun b h _ => h)) hc
        obtain ⟨-, -, b, off, A1, n1, p1, A2, n2, p2, rfl, hbB, c0, c1, c2, c3, c4, hl', hk'⟩ := hkid
        have HL' := Lib.hid hl'; have HK' := Lib.hid hk'; clear hl' hk'
        have hcp : parts c ≤ m := by have h1 := parts_at (mem_of_at HC.out); have h2 := HP.out; omega
        have hcg : Good c := HG.out c (mem_of_at HC.out)
        obtain ⟨Av, capv, rfl⟩ := own_form hown
        obtain ⟨wa, hwa⟩ : ∃ y, wr.alloc (.cells #[.int .i64 c.kind, .int .i64 c.sort, .string ⟨c.name.toArray⟩, .slice A1 n1 p1, .slice A2 n2 p2] 51) = y := ⟨_, rfl⟩
        have hba : Below wr.heap.size wr wa := by subst hwa; exact (Below.refl _ _).alloc (Nat.le_refl _) _
        have hsa : wa.heap.size = wr.heap.size + 1 := by subst hwa; simp
        have hkb : VBox wa wr.heap.size c (.slice A1 n1 p1) (.slice A2 n2 p2) := by subst hwa; exact ⟨by simp [go_sem], by simp [go_sem], by simp [go_sem], by simp [go_sem], by simp [go_sem], fun j => by simp [go_sem], by simp⟩
        obtain ⟨k0, k1, k2, k3, k4, k5, k6⟩ := id hkb
        obtain ⟨s0, s1, s2, s3, s4, s5, s6⟩ := hSB.keep hba hSB.lt
        obtain ⟨o0, o1, o2, o3, o4, o5, o6⟩ := hOB.keep hba hOB.lt
        have hS : ∀ w' : World, Same (fun b => b < N0 ∨ b = wr.heap.size) wa w' → (fun w' : World => w'.cell? ⟨bo, 4, none⟩ = some (.slice Av k capv) ∧ w'.cell? ⟨wr.heap.size, 0, none⟩ = some (.int .i64 c.kind) ∧ w'.cell? ⟨wr.heap.size, 1, none⟩ = some (.int .i64 c.sort) ∧ w'.cell? ⟨wr.heap.size, 2, none⟩ = some (.string ⟨c.name.toArray⟩) ∧ w'.cell? ⟨wr.heap.size, 3, none⟩ = some (.slice A1 n1 p1) ∧ w'.cell? ⟨wr.heap.size, 4, none⟩ = some (.slice A2 n2 p2) ∧ w'.cell? ⟨w.heap.size + 1, 0, none⟩ = some (.int .i64 s.kind) ∧ w'.cell? ⟨w.heap.size + 1, 1, none⟩ = some (.int .i64 s.sort) ∧ w'.cell? ⟨w.heap.size + 1, 2, none⟩ = some (.string ⟨s.name.toArray⟩) ∧ w'.cell? ⟨w.heap.size + 1, 3, none⟩ = some (.slice A0' s.labels.length p0') ∧ w'.cell? ⟨w.heap.size + 1, 4, none⟩ = some (.slice A' s.kids.length cap')) w' := fun w' h => ⟨h.cell (by first | (left; omega) | (right; rfl)) o4, h.cell (by first | (left; omega) | (right; rfl)) k0, h.cell (by first | (left; omega) | (right; rfl)) k1, h.cell (by first | (left; omega) | (right; rfl)) k2, h.cell (by first | (left; omega) | (right; rfl)) k3, h.cell (by first | (left; omega) | (right; rfl)) k4, h.cell (by first | (left; omega) | (right; rfl)) s0, h.cell (by first | (left; omega) | (right; rfl)) s1, h.cell (by first | (left; omega) | (right; rfl)) s2, h.cell (by first | (left; omega) | (right; rfl)) s3, h.cell (by first | (left; omega) | (right; rfl)) s4⟩
        have HSd := Lib.hid (hS wa.drew (fun _ _ _ => rfl))
        have HSB := Lib.hid hS; clear hS
        clear hc
        go_wp2_with fail
        try rw [hwa]
        clear hwa
        refine wp_region_T 8 (fun w' : World => w'.cell? ⟨bo, 4, none⟩ = some (.slice Av k capv) ∧ w'.cell? ⟨wr.heap.size, 0, none⟩ = some (.int .i64 c.kind) ∧ w'.cell? ⟨wr.heap.size, 1, none⟩ = some (.int .i64 c.sort) ∧ w'.cell? ⟨wr.heap.size, 2, none⟩ = some (.string ⟨c.name.toArray⟩) ∧ w'.cell? ⟨wr.heap.size, 3, none⟩ = some (.slice A1 n1 p1) ∧ w'.cell? ⟨wr.heap.size, 4, none⟩ = some (.slice A2 n2 p2) ∧ w'.cell? ⟨w.heap.size + 1, 0, none⟩ = some (.int .i64 s.kind) ∧ w'.cell? ⟨w.heap.size + 1, 1, none⟩ = some (.int .i64 s.sort) ∧ w'.cell? ⟨w.heap.size + 1, 2, none⟩ = some (.string ⟨s.name.toArray⟩) ∧ w'.cell? ⟨w.heap.size + 1, 3, none⟩ = some (.slice A0' s.labels.length p0') ∧ w'.cell? ⟨w.heap.size + 1, 4, none⟩ = some (.slice A' s.kids.length cap')) (by kernel_rfl) ?_
        refine wpT_take (i := 0) (v := ?_) rfl (by kernel_rfl) (by kernel_rfl) (by kernel_rfl) (by kernel_rfl) (fun _ _ _ h => h) (Or.inl ⟨by rfl, ?_⟩) HSd.out ?_
        rotate_left
        · (intro wq hSw; obtain ⟨q0, q1, q2, q3, q4, q5, q6, q7, q8, q9, q10⟩ := hSw; go_simp; all_goals (first | (with_reducible rfl) | (rw [if_neg (by first | omega | (simp; omega) | (simp only [List.length_append, List.length_cons, List.length_nil]; omega))])))
        simp only [List.getElem_toArray, List.getElem_cons_succ, List.getElem_cons_zero, Act.put, List.setIfInBounds_toArray, List.set_cons_zero, List.set_cons_succ]
        refine wpT_take (i := 1) (v := ?_) rfl (by kernel_rfl) (by kernel_rfl) (by kernel_rfl) (by kernel_rfl) (fun _ _ _ h => h) (Or.inl ⟨by rfl, ?_⟩) HSd.out ?_
        rotate_left
        · (intro wq hSw; obtain ⟨q0, q1, q2, q3, q4, q5, q6, q7, q8, q9, q10⟩ := hSw; go_simp; all_goals (first | (with_reducible rfl) | (rw [if_neg (by first | omega | (simp; omega) | (simp only [List.length_append, List.length_cons, List.length_nil]; omega))])))
        simp only [List.getElem_toArray, List.getElem_cons_succ, List.getElem_cons_zero, Act.put, List.setIfInBounds_toArray, List.set_cons_zero, List.set_cons_succ]
        refine wpT_take (i := 2) (v := ?_) rfl (by kernel_rfl) (by kernel_rfl) (by kernel_rfl) (by kernel_rfl) (fun _ _ _ h => h) (Or.inl ⟨by rfl, ?_⟩) HSd.out ?_
        rotate_left
        · (intro wq hSw; obtain ⟨q0, q1, q2, q3, q4, q5, q6, q7, q8, q9, q10⟩ := hSw; go_simp; all_goals (first | (with_reducible rfl) | (rw [if_neg (by first | omega | (simp; omega) | (simp only [List.length_append, List.length_cons, List.length_nil]; omega))])))
        simp only [List.getElem_toArray, List.getElem_cons_succ, List.getElem_cons_zero, Act.put, List.setIfInBounds_toArray, List.set_cons_zero, List.set_cons_succ]
        refine wpT_take (i := 3) (v := ?_) rfl (by kernel_rfl) (by kernel_rfl) (by kernel_rfl) (by kernel_rfl) (fun _ _ _ h => h) (Or.inl ⟨by rfl, ?_⟩) HSd.out ?_
        rotate_left
        · (intro wq hSw; obtain ⟨q0, q1, q2, q3, q4, q5, q6, q7, q8, q9, q10⟩ := hSw; go_simp; all_goals (first | (with_reducible rfl) | (rw [if_neg (by first | omega | (simp; omega) | (simp only [List.length_append, List.length_cons, List.length_nil]; omega))])))
        simp only [List.getElem_toArray, List.getElem_cons_succ, List.getElem_cons_zero, Act.put, List.setIfInBounds_toArray, List.set_cons_zero, List.set_cons_succ]
        refine wpT_take (i := 4) (v := ?_) rfl (by kernel_rfl) (by kernel_rfl) (by kernel_rfl) (by kernel_rfl) (fun _ _ _ h => h) (Or.inl ⟨by rfl, ?_⟩) HSd.out ?_
        rotate_left
        · (intro wq hSw; obtain ⟨q0, q1, q2, q3, q4, q5, q6, q7, q8, q9, q10⟩ := hSw; go_simp; all_goals (first | (with_reducible rfl) | (rw [if_neg (by first | omega | (simp; omega) | (simp only [List.length_append, List.length_cons, List.length_nil]; omega))])))
        simp only [List.getElem_toArray, List.getElem_cons_succ, List.getElem_cons_zero, Act.put, List.setIfInBounds_toArray, List.set_cons_zero, List.set_cons_succ]
        refine wpT_one (i := 5) rfl (by kernel_rfl) fun K hK => ?_
        go_simp
        refine (ih c _ _ hcp (fun b h => by have := hB b h; show b < wa.heap.size; omega) ((tyD_of HL'.out HK'.out).keep (w' := wa.drew) (Same.below hba.drew) (fun b h _ => h)) hcg (HS.out.keep (w' := wa.drew) (Same.below (chain hb hba).drew) (fun b h _ => h))).mono ?_
        rintro e w1 ⟨r, rfl, hr, hb1⟩
        obtain ⟨cs, hcs⟩ : ∃ y, sub x s c = y := ⟨_, rfl⟩
        rw [hcs] at hr
        obtain ⟨lr, kr, rfl, hr1, hr2⟩ := hr
        have HR1 := Lib.hid hr1; have HR2 := Lib.hid hr2
        obtain ⟨Ar, pr, rfl, -, -⟩ := hr1
        obtain ⟨Br, qr, rfl, -, -⟩ := hr2
        have hba1 : Below wa.heap.size wa w1 := chain ((Below.refl _ _).drew) hb1
        have hb1' : Below wr.heap.size wr w1 := chain hba hba1
        have hbB1 : Below N0 wr w1 := hb1'.mono hNr
        have hs1 := hb1'.size
        have hs2 := hba1.size
        have hne : ∀ q, q < N0 ∨ q = wr.heap.size → some q ≠ (Value.slice Av k capv).ownBlock := fun q hq e => by
          obtain ⟨h1, h2⟩ := hown.lt q e.symm
          omega
        refine hK.out _ _ (fun _ => HSB.out w1 (Same.below hba1)) ?_
        clear hK K
        try simp only [List.getElem_toArray, List.getElem_cons_succ, List.getElem_cons_zero, Act.put, List.setIfInBounds_toArray, List.set_cons_zero, List.set_cons_succ]
        refine wpT_one (i := 6) rfl (by kernel_rfl) fun K hK => ?_
        go_simp
        have hbA := hbB1.alloc (by omega) (.cells #[.int .i64 cs.kind, .int .i64 cs.sort, .string ⟨cs.name.toArray⟩, .slice Ar cs.labels.length pr, .slice Br cs.kids.length qr] 51)
        have hsA := Below.trans hba1 ((Below.refl _ w1).alloc hs2 (.cells #[.int .i64 cs.kind, .int .i64 cs.sort, .string ⟨cs.name.toArray⟩, .slice Ar cs.labels.length pr, .slice Br cs.kids.length qr] 51))
        refine hK.out _ _ (fun _ => HSB.out _ (Same.below hsA)) ?_
        clear hK K
        try simp only [List.getElem_toArray, List.getElem_cons_succ, List.getElem_cons_zero, Act.put, List.setIfInBounds_toArray, List.set_cons_zero, List.set_cons_succ]
        refine wpT_one (i := 7) rfl (by kernel_rfl) fun K hK => ?_
        refine step_app rt_types rfl (.tmp 52) (.tmp 57) rfl N0 _ k xs rfl ((own_keep hown hb1' (Nat.le_refl _)).alloc _) ⟨w1.heap.size, 0, none⟩ 1 1 [.int .i64 cs.kind, .int .i64 cs.sort, .string ⟨cs.name.toArray⟩, .slice Ar cs.labels.length pr, .slice Br cs.kids.length qr] rfl rfl (five_new _ _ _ _ _ _ _) (by simp [Value.oneCell']) (by unfold maxLen; omega) (by omega) (by rw [World.size_alloc]; omega) (fun v' w3 k1 k2 k3 k4 => ?_)
        obtain ⟨Aw, capw, rfl⟩ := own_form k1
        have hb3 := hbA.trans k4
        refine hK.out _ _ (fun _ => HSB.out _ (Same.trans (Same.below hsA) hsA.size (Same.grown k2 hne))) ?_
        clear hK K
        try simp only [List.getElem_toArray, List.getElem_cons_succ, List.getElem_cons_zero, Act.put, List.setIfInBounds_toArray, List.set_cons_zero, List.set_cons_succ]
        refine wpT_one (i := 8) rfl (by kernel_rfl) fun K hK => ?_
        go_simp
        refine hK.out _ _ (fun h => absurd h (by decide)) ?_
        clear hK K
        try simp only [List.getElem_toArray, List.getElem_cons_succ, List.getElem_cons_zero, Act.put, List.setIfInBounds_toArray, List.set_cons_zero, List.set_cons_succ]
        refine wpT_one (i := 9) rfl (by kernel_rfl) fun K hK => ?_
        have hOB3 := hOB.keep hb3 hbN
        obtain ⟨z0, z1, z2, z3, z4, z5, z6⟩ := id hOB3
        go_simp
        refine hK.out _ _ (fun h => absurd h (by decide)) ?_
        clear hK K
        try simp only [List.getElem_toArray, List.getElem_cons_succ, List.getElem_cons_zero, Act.put, List.setIfInBounds_toArray, List.set_cons_zero, List.set_cons_succ]
        refine wpT_done (by kernel_rfl) ?_
        have hSB4 := (hSB.keep hb3 (by omega)).far (p := ⟨bo, 4, none⟩) (by show _ ≠ _; simp only []; omega) (.slice Aw (k + 1) capw)
        have hRB4 := (hRB.keep hb3 (by omega)).far (p := ⟨bo, 4, none⟩) (by show _ ≠ _; simp only []; omega) (.slice Aw (k + 1) capw)
        have hOB4 := hOB3.set4 (.slice Aw (k + 1) capw)
        have hown4 := own_set k1 (p := ⟨bo, 4, none⟩) hbN (.slice Aw (k + 1) capw)
        have hcells3 := Cells5D.pushed hown (fun b h => by have := hB b h; omega) hNr hcells hb1' (Cells5D.keep (.cons cs _ _ [] [] HR1.out HR2.out .nil) (fun _ _ _ => rfl) (fun b h _ => by rcases h with h | h; exact Or.inl h; (have h' : wa.heap.size ≤ b := h); exact Or.inr (by omega))) ((Below.refl _ _).alloc (Nat.le_refl _) _) k2 k3
        have hcells4 := hcells3.keep (D' := fun b => Out B0 N0 b ∧ some b ≠ (Value.slice Aw (k + 1) capw).ownBlock) (Same.set (p := ⟨bo, 4, none⟩) (u := .slice Aw (k + 1) capw) (fun h => by rcases h.1 with h | h; (have := hB _ h; simp only [] at this; omega); (simp only [] at h; omega))) (fun b h _ => h)
        have he : subs x s (ks.take k) ++ [cs] = subs x s (ks.take (k + 1)) := by rw [subs_take HC.out, hcs]
        rw [he] at hcells4
        have hlab3 := hlab.keep (D' := fun b => w.heap.size + 1 + 1 + 1 ≤ b ∧ b ≠ bo ∧ b < N0) (w' := w3) (fun b h _ => hb3.block b h.2.2) (fun b h _ => h)
        have hlab4 := hlab3.keep (D' := fun b => w.heap.size + 1 + 1 + 1 ≤ b ∧ b ≠ bo ∧ b < N0) (Same.set (p := ⟨bo, 4, none⟩) (u := .slice Aw (k + 1) capw) (fun h => h.2.1 rfl)) (fun b h _ => h)
        have hb4 : Below w.heap.size w (w3.setCell ⟨bo, 4, none⟩ (.slice Aw (k + 1) capw)) := (hb.trans (hb3.mono (by omega))).setCell (by show _ ≤ _; simp only []; omega) _
        have hN4 : N0 ≤ (w3.setCell ⟨bo, 4, none⟩ (.slice Aw (k + 1) capw)).heap.size := by rw [World.size_setCell]; have := hb3.size; omega
        generalize w3.setCell ⟨bo, 4, none⟩ (.slice Aw (k + 1) capw) = w4 at hSB4 hRB4 hOB4 hown4 hcells4 hlab4 hb4 hN4 ⊢
        go_wp2_with fail
        go_roundw
        case rel => exact ⟨k + 1, _, _, by omega, by go_num, hSB4, hRB4, hOB4, hown4, hcells4, hlab4, hb4, hN4⟩
        case measure => simp [intOf]; omega
      · have hk' : k = L := by omega
        subst hk'
        clear hlt
        have htk : ks.take k = ks := List.take_of_length_le (by rw [HL.out]; exact Nat.le_refl _)
        rw [htk] at hcells
        obtain ⟨Av, capv, rfl⟩ := own_form hown
        have hfin : TysD (Out B0 N0) wr (.slice Av k capv) (subs x s ks) := by
          have hl : (subs x s ks).length = k := by rw [subs_len, HL.out]
          exact own_tysD (ts := subs x s ks) (by rw [hl]; exact hown) (hcells.keep (fun _ _ _ => rfl) (fun b h _ => h.1)) (fun b h => Or.inr h)
        obtain ⟨o0, o1, o2, o3, o4, o5, o6⟩ := hOB
        have hF0 := hRB.fill t (.slice A0x L0 p0x) (.slice Av k capv)
        obtain ⟨r0, r1, r2, r3, r4, r5, r6⟩ := hRB
        have HF := Lib.hid hfin; have HLb := Lib.hid hlab
        simp only [Ty.kind, Ty.sort, Ty.name] at r0 r1 r2
        clear hfin hlab hcells hown hSB
        go_wp2_with fail
        have hR := hF0
        have hsame := Same.fill (D := Out B0 N0) (w := wr) (b := w.heap.size + 1 + 1) (by rintro (h | h); (have := hB _ h; omega); omega) (.int .i64 t.kind) (.int .i64 t.sort) (.string ⟨t.name.toArray⟩) (.slice A0x L0 p0x) (.slice Av k capv)
        have hsame2 := Same.fill (D := fun b => w.heap.size + 1 + 1 + 1 ≤ b ∧ b ≠ bo ∧ b < N0) (w := wr) (b := w.heap.size + 1 + 1) (by rintro ⟨h, -⟩; omega) (.int .i64 t.kind) (.int .i64 t.sort) (.string ⟨t.name.toArray⟩) (.slice A0x L0 p0x) (.slice Av k capv)
        have hbel := below_fill hb (b := w.heap.size + 1 + 1) (by omega) (.int .i64 t.kind) (.int .i64 t.sort) (.string ⟨t.name.toArray⟩) (.slice A0x L0 p0x) (.slice Av k capv)
        have hf2 := HF.out.keep (D' := Out B0 w.heap.size) hsame (fun b h _ => by rcases h with h | h; exact Or.inl h; exact Or.inr (by omega))
        have hl2 := HLb.out.keep (D' := Out B0 w.heap.size) hsame2 (fun b h _ => Or.inr (by omega))
        generalize (((((wr.setCell ⟨w.heap.size + 1 + 1, 0, none⟩ (.int .i64 t.kind)).setCell ⟨w.heap.size + 1 + 1, 1, none⟩ (.int .i64 t.sort)).setCell ⟨w.heap.size + 1 + 1, 2, none⟩ (.string ⟨t.name.toArray⟩)).setCell ⟨w.heap.size + 1 + 1, 3, none⟩ (.slice A0x L0 p0x)).setCell ⟨w.heap.size + 1 + 1, 4, none⟩ (.slice Av k capv)) = w5 at hR hbel hf2 hl2 ⊢
        obtain ⟨d0, d1, d2, d3, d4, d5, d6⟩ := hR
        refine bodyPost_ret (v := .agg #[.int .i64 t.kind, .int .i64 t.sort, .string ⟨t.name.toArray⟩, .slice A0x L0 p0x, .slice Av k capv]) (by simp [results, Tryd.results118, go_sem, d0, d1, d2, d3, d4]) rfl ?_
        exact ⟨_, rfl, ⟨_, _, rfl, hl2, hf2⟩, hbel⟩
    
  · go_simp
    have hbz : Below W.heap.size W (W.alloc (.cells #[.int .i64 0, .int .i64 0, .string ⟨#[]⟩, .slice none 0 0, .slice none 0 0] 51)) := (Below.refl _ _).alloc (Nat.le_refl _) _
    refine hK.out _ _ (fun _ => HSB.out _ hbz.drew) ?_
    clear hK K
    try simp only [List.getElem_toArray, List.getElem_cons_succ, List.getElem_cons_zero, Act.put, List.setIfInBounds_toArray, List.set_cons_zero, List.set_cons_succ]
    refine wpT_one (i := 8) rfl (by kernel_rfl) fun K hK => ?_
    go_simp
    refine (clone_any (HV.out.keep (w' := (W.alloc (.cells #[.int .i64 0, .int .i64 0, .string ⟨#[]⟩, .slice none 0 0, .slice none 0 0] 51)).drew) (Same.below (chain hbW hbz).drew) (fun b h _ => h)) (by rw [HL0.out]; omega)).mono ?_
    rintro e w1 ⟨v', rfl, hl1, hb1⟩
    have hb1' : Below W.heap.size W w1 := chain hbz.drew hb1
    have HL1 := Lib.hid hl1
    obtain ⟨A0x, p0x, rfl, -, -⟩ := hl1
    rw [HL0.out] at HL1 ⊢
    refine hK.out _ _ (fun _ => HSB.out w1 hb1') ?_
    clear hK K
    try simp only [List.getElem_toArray, List.getElem_cons_succ, List.getElem_cons_zero, Act.put, List.setIfInBounds_toArray, List.set_cons_zero, List.set_cons_succ]
    refine wpT_take (i := 9) (v := ?_) rfl (by kernel_rfl) (by kernel_rfl) (by kernel_rfl) (by kernel_rfl) (fun _ _ _ h => h) (Or.inl ⟨by rfl, ?_⟩) (HSB.out w1 hb1') ?_
    rotate_left
    · (intro wq hSw; obtain ⟨q0, q1, q2, q3⟩ := hSw; go_simp; all_goals (with_reducible rfl))
    try simp only [List.getElem_toArray, List.getElem_cons_succ, List.getElem_cons_zero, Act.put, List.setIfInBounds_toArray, List.set_cons_zero, List.set_cons_succ]
    have hZB : VBox w1 W.heap.size (.mk 0 0 [] [] []) (.slice none 0 0) (.slice none 0 0) := VBox.keep (w := (W.alloc (.cells #[.int .i64 0, .int .i64 0, .string ⟨#[]⟩, .slice none 0 0, .slice none 0 0] 51)).drew) ⟨by simp [go_sem]; rfl, by simp [go_sem]; rfl, by simp [go_sem]; rfl, by simp [go_sem], by simp [go_sem], fun j => by simp [go_sem], by simp⟩ hb1 (by show _ < (W.alloc _).heap.size; simp)
    have hF := hZB.fill t (.slice A0x L0 p0x) (.slice none 0 0)
    obtain ⟨z0, z1, z2, z3, z4, z5, z6⟩ := hZB
    rw [hWs] at z0 z1 z2 z3 z4 z5 z6 hF
    refine wpT_one (i := 11) rfl (by kernel_rfl) fun K hK => ?_
    go_simp
    refine hK.out _ _ (fun h => absurd h (by decide)) ?_
    clear hK K
    try simp only [List.getElem_toArray, List.getElem_cons_succ, List.getElem_cons_zero, Act.put, List.setIfInBounds_toArray, List.set_cons_zero, List.set_cons_succ]
    refine wpT_done (by kernel_rfl) ?_
    have hb2 := below_fill hb1' (b := w.heap.size + 1 + 1 + 1) (by omega) (.int .i64 t.kind) (.int .i64 t.sort) (.string ⟨t.name.toArray⟩) (.slice A0x L0 p0x) (.slice none 0 0)
    have hlab : StrsD (fun b => w.heap.size + 1 + 1 + 1 ≤ b ∧ b ≠ w.heap.size + 1 + 1 + 1) _ (.slice A0x L0 p0x) t.labels := HL1.out.keep (Same.fill (b := w.heap.size + 1 + 1 + 1) (fun h => by have h' : (W.alloc (.cells #[.int .i64 0, .int .i64 0, .string ⟨#[]⟩, .slice none 0 0, .slice none 0 0] 51)).heap.size ≤ w.heap.size + 1 + 1 + 1 := h; rw [World.size_alloc] at h'; omega) (.int .i64 t.kind) (.int .i64 t.sort) (.string ⟨t.name.toArray⟩) (.slice A0x L0 p0x) (.slice none 0 0)) (fun b h hl => by have h' : (W.alloc (.cells #[.int .i64 0, .int .i64 0, .string ⟨#[]⟩, .slice none 0 0, .slice none 0 0] 51)).heap.size ≤ b := h; rw [World.size_alloc] at h'; exact ⟨by omega, by omega⟩)
    have hOB := hF
    have hbo : w.heap.size + 1 + 1 + 1 ≤ w.heap.size + 1 + 1 + 1 := Nat.le_refl _
    generalize (((((w1.setCell ⟨w.heap.size + 1 + 1 + 1, 0, none⟩ (.int .i64 t.kind)).setCell ⟨w.heap.size + 1 + 1 + 1, 1, none⟩ (.int .i64 t.sort)).setCell ⟨w.heap.size + 1 + 1 + 1, 2, none⟩ (.string ⟨t.name.toArray⟩)).setCell ⟨w.heap.size + 1 + 1 + 1, 3, none⟩ (.slice A0x L0 p0x)).setCell ⟨w.heap.size + 1 + 1 + 1, 4, none⟩ (.slice none 0 0)) = W2 at hb2 hF hOB hlab ⊢
    obtain ⟨bo, hboe⟩ : ∃ x, w.heap.size + 1 + 1 + 1 = x := ⟨_, rfl⟩
    have hlab2 : StrsD (fun b => w.heap.size + 1 + 1 + 1 ≤ b ∧ b ≠ bo) W2 (.slice A0x L0 p0x) t.labels := by rw [← hboe]; exact hlab
    have hOB2 : VBox W2 bo t (.slice A0x L0 p0x) (.slice none 0 0) := by rw [← hboe]; exact hOB
    have hbo2 : w.heap.size + 1 + 1 + 1 ≤ bo := by omega
    clear hlab hOB hbo hF z0 z1 z2 z3 z4 z5 z6 hbz hb1 hb1'
    have hlab := hlab2; have hOB := hOB2; have hbo := hbo2
    clear hlab2 hOB2 hbo2
    rw [hboe]
    clear hboe
    have hT2 := hTB.keep hb2 hTB.lt
    have hS2 := hSB.keep hb2 hSB.lt
    have hR2 := hRB.keep hb2 hRB.lt
    have hbw : Below w.heap.size w W2 := chain hbW hb2
    have hBb : w.heap.size + 1 + 1 + 1 ≤ W2.heap.size := by have := hb2.size; omega
    clear hTB hSB hRB hb2 hWs hbW HSB HSd HL1 t0 t1 t2 t3 t4 t5 t6
    clear W
    obtain ⟨t0, t1, t2, t3, t4, t5, t6⟩ := hT2
    obtain ⟨N0, hN0⟩ : ∃ x, W2.heap.size = x := ⟨_, rfl⟩
    have hbN : bo < N0 := by rw [← hN0]; exact hOB.lt
    have hBN : w.heap.size + 1 + 1 + 1 ≤ N0 := by omega
    have hlabN : StrsD (fun b => w.heap.size + 1 + 1 + 1 ≤ b ∧ b ≠ bo ∧ b < N0) W2 (.slice A0x L0 p0x) t.labels := hlab.keep (fun _ _ _ => rfl) (fun b h hl => ⟨h.1, h.2, by omega⟩)
    clear hlab hBb
    go_wp2_with fail
    clear t0 t1 t2 t3 t4 t5 t6
    go_loopw [47] (fun i wr => ∃ (k : Nat) (rv : Value) (xs : List Value), k ≤ L ∧ i = .int .i64 k ∧ VBox wr (w.heap.size + 1) s (.slice A0' s.labels.length p0') (.slice A' s.kids.length cap') ∧ VBox wr (w.heap.size + 1 + 1) (.mk 0 0 [] [] []) (.slice none 0 0) (.slice none 0 0) ∧ VBox wr bo t (.slice A0x L0 p0x) rv ∧
      wr.ownsRow N0 51 5 rv k xs ∧ Cells5D (fun b => Out B0 N0 b ∧ some b ≠ rv.ownBlock) wr xs (subs x s (ks.take k)) ∧ StrsD (fun b => w.heap.size + 1 + 1 + 1 ≤ b ∧ b ≠ bo ∧ b < N0) wr (.slice A0x L0 p0x) t.labels ∧ Below w.heap.size w wr ∧ N0 ≤ wr.heap.size) (fun i _ => L - (intOf i).toNat)
    case atStart => exact ⟨0, .slice none 0 0, [], by omega, rfl, hS2, hR2, hOB, World.ownsRow_nil _ _ _ _, .nil, hlabN, hbw, by omega⟩
    case round =>
      clear hS2 hR2 hOB hlabN hbw hN0
      clear W2
      obtain ⟨k, rv, xs, hk, rfl, hSB, hRB, hOB, hown, hcells, hlab, hb, hNr⟩ := hrel
      by_cases hlt : k < L
      · obtain ⟨c, hc⟩ : ∃ x, ks[k]? = some x := ⟨_, List.getElem?_eq_getElem (by rw [HL.out]; exact hlt)⟩
        have HC := Lib.hid hc
        have hkid := kid_atD (HK.out.keep (D' := B0) (Same.below hb) (fun b h _ => h)) hc
        obtain ⟨-, -, b, off, A1, n1, p1, A2, n2, p2, rfl, hbB, c0, c1, c2, c3, c4, hl', hk'⟩ := hkid
        have HL' := Lib.hid hl'; have HK' := Lib.hid hk'; clear hl' hk'
        have hcp : parts c ≤ m := by have h1 := parts_at (mem_of_at HC.out); have h2 := HP.out; omega
        have hcg : Good c := HG.out c (mem_of_at HC.out)
        obtain ⟨Av, capv, rfl⟩ := own_form hown
        obtain ⟨wa, hwa⟩ : ∃ y, wr.alloc (.cells #[.int .i64 c.kind, .int .i64 c.sort, .string ⟨c.name.toArray⟩, .slice A1 n1 p1, .slice A2 n2 p2] 51) = y := ⟨_, rfl⟩
        have hba : Below wr.heap.size wr wa := by subst hwa; exact (Below.refl _ _).alloc (Nat.le_refl _) _
        have hsa : wa.heap.size = wr.heap.size + 1 := by subst hwa; simp
        have hkb : VBox wa wr.heap.size c (.slice A1 n1 p1) (.slice A2 n2 p2) := by subst hwa; exact ⟨by simp [go_sem], by simp [go_sem], by simp [go_sem], by simp [go_sem], by simp [go_sem], fun j => by simp [go_sem], by simp⟩
        obtain ⟨k0, k1, k2, k3, k4, k5, k6⟩ := id hkb
        obtain ⟨s0, s1, s2, s3, s4, s5, s6⟩ := hSB.keep hba hSB.lt
        obtain ⟨o0, o1, o2, o3, o4, o5, o6⟩ := hOB.keep hba hOB.lt
        have hS : ∀ w' : World, Same (fun b => b < N0 ∨ b = wr.heap.size) wa w' → (fun w' : World => w'.cell? ⟨bo, 4, none⟩ = some (.slice Av k capv) ∧ w'.cell? ⟨wr.heap.size, 0, none⟩ = some (.int .i64 c.kind) ∧ w'.cell? ⟨wr.heap.size, 1, none⟩ = some (.int .i64 c.sort) ∧ w'.cell? ⟨wr.heap.size, 2, none⟩ = some (.string ⟨c.name.toArray⟩) ∧ w'.cell? ⟨wr.heap.size, 3, none⟩ = some (.slice A1 n1 p1) ∧ w'.cell? ⟨wr.heap.size, 4, none⟩ = some (.slice A2 n2 p2) ∧ w'.cell? ⟨w.heap.size + 1, 0, none⟩ = some (.int .i64 s.kind) ∧ w'.cell? ⟨w.heap.size + 1, 1, none⟩ = some (.int .i64 s.sort) ∧ w'.cell? ⟨w.heap.size + 1, 2, none⟩ = some (.string ⟨s.name.toArray⟩) ∧ w'.cell? ⟨w.heap.size + 1, 3, none⟩ = some (.slice A0' s.labels.length p0') ∧ w'.cell? ⟨w.heap.size + 1, 4, none⟩ = some (.slice A' s.kids.length cap')) w' := fun w' h => ⟨h.cell (by first | (left; omega) | (right; rfl)) o4, h.cell (by first | (left; omega) | (right; rfl)) k0, h.cell (by first | (left; omega) | (right; rfl)) k1, h.cell (by first | (left; omega) | (right; rfl)) k2, h.cell (by first | (left; omega) | (right; rfl)) k3, h.cell (by first | (left; omega) | (right; rfl)) k4, h.cell (by first | (left; omega) | (right; rfl)) s0, h.cell (by first | (left; omega) | (right; rfl)) s1, h.cell (by first | (left; omega) | (right; rfl)) s2, h.cell (by first | (left; omega) | (right; rfl)) s3, h.cell (by first | (left; omega) | (right; rfl)) s4⟩
        have HSd := Lib.hid (hS wa.drew (fun _ _ _ => rfl))
        have HSB := Lib.hid hS; clear hS
        clear hc
        go_wp2_with fail
        try rw [hwa]
        clear hwa
        refine wp_region_T 8 (fun w' : World => w'.cell? ⟨bo, 4, none⟩ = some (.slice Av k capv) ∧ w'.cell? ⟨wr.heap.size, 0, none⟩ = some (.int .i64 c.kind) ∧ w'.cell? ⟨wr.heap.size, 1, none⟩ = some (.int .i64 c.sort) ∧ w'.cell? ⟨wr.heap.size, 2, none⟩ = some (.string ⟨c.name.toArray⟩) ∧ w'.cell? ⟨wr.heap.size, 3, none⟩ = some (.slice A1 n1 p1) ∧ w'.cell? ⟨wr.heap.size, 4, none⟩ = some (.slice A2 n2 p2) ∧ w'.cell? ⟨w.heap.size + 1, 0, none⟩ = some (.int .i64 s.kind) ∧ w'.cell? ⟨w.heap.size + 1, 1, none⟩ = some (.int .i64 s.sort) ∧ w'.cell? ⟨w.heap.size + 1, 2, none⟩ = some (.string ⟨s.name.toArray⟩) ∧ w'.cell? ⟨w.heap.size + 1, 3, none⟩ = some (.slice A0' s.labels.length p0') ∧ w'.cell? ⟨w.heap.size + 1, 4, none⟩ = some (.slice A' s.kids.length cap')) (by kernel_rfl) ?_
        refine wpT_take (i := 0) (v := ?_) rfl (by kernel_rfl) (by kernel_rfl) (by kernel_rfl) (by kernel_rfl) (fun _ _ _ h => h) (Or.inl ⟨by rfl, ?_⟩) HSd.out ?_
        rotate_left
        · (intro wq hSw; obtain ⟨q0, q1, q2, q3, q4, q5, q6, q7, q8, q9, q10⟩ := hSw; go_simp; all_goals (first | (with_reducible rfl) | (rw [if_neg (by first | omega | (simp; omega) | (simp only [List.length_append, List.length_cons, List.length_nil]; omega))])))
        simp only [List.getElem_toArray, List.getElem_cons_succ, List.getElem_cons_zero, Act.put, List.setIfInBounds_toArray, List.set_cons_zero, List.set_cons_succ]
        refine wpT_take (i := 1) (v := ?_) rfl (by kernel_rfl) (by kernel_rfl) (by kernel_rfl) (by kernel_rfl) (fun _ _ _ h => h) (Or.inl ⟨by rfl, ?_⟩) HSd.out ?_
        rotate_left
        · (intro wq hSw; obtain ⟨q0, q1, q2, q3, q4, q5, q6, q7, q8, q9, q10⟩ := hSw; go_simp; all_goals (first | (with_reducible rfl) | (rw [if_neg (by first | omega | (simp; omega) | (simp only [List.length_append, List.length_cons, List.length_nil]; omega))])))
        simp only [List.getElem_toArray, List.getElem_cons_succ, List.getElem_cons_zero, Act.put, List.setIfInBounds_toArray, List.set_cons_zero, List.set_cons_succ]
        refine wpT_take (i := 2) (v := ?_) rfl (by kernel_rfl) (by kernel_rfl) (by kernel_rfl) (by kernel_rfl) (fun _ _ _ h => h) (Or.inl ⟨by rfl, ?_⟩) HSd.out ?_
        rotate_left
        · (intro wq hSw; obtain ⟨q0, q1, q2, q3, q4, q5, q6, q7, q8, q9, q10⟩ := hSw; go_simp; all_goals (first | (with_reducible rfl) | (rw [if_neg (by first | omega | (simp; omega) | (simp only [List.length_append, List.length_cons, List.length_nil]; omega))])))
        simp only [List.getElem_toArray, List.getElem_cons_succ, List.getElem_cons_zero, Act.put, List.setIfInBounds_toArray, List.set_cons_zero, List.set_cons_succ]
        refine wpT_take (i := 3) (v := ?_) rfl (by kernel_rfl) (by kernel_rfl) (by kernel_rfl) (by kernel_rfl) (fun _ _ _ h => h) (Or.inl ⟨by rfl, ?_⟩) HSd.out ?_
        rotate_left
        · (intro wq hSw; obtain ⟨q0, q1, q2, q3, q4, q5, q6, q7, q8, q9, q10⟩ := hSw; go_simp; all_goals (first | (with_reducible rfl) | (rw [if_neg (by first | omega | (simp; omega) | (simp only [List.length_append, List.length_cons, List.length_nil]; omega))])))
        simp only [List.getElem_toArray, List.getElem_cons_succ, List.getElem_cons_zero, Act.put, List.setIfInBounds_toArray, List.set_cons_zero, List.set_cons_succ]
        refine wpT_take (i := 4) (v := ?_) rfl (by kernel_rfl) (by kernel_rfl) (by kernel_rfl) (by kernel_rfl) (fun _ _ _ h => h) (Or.inl ⟨by rfl, ?_⟩) HSd.out ?_
        rotate_left
        · (intro wq hSw; obtain ⟨q0, q1, q2, q3, q4, q5, q6, q7, q8, q9, q10⟩ := hSw; go_simp; all_goals (first | (with_reducible rfl) | (rw [if_neg (by first | omega | (simp; omega) | (simp only [List.length_append, List.length_cons, List.length_nil]; omega))])))
        simp only [List.getElem_toArray, List.getElem_cons_succ, List.getElem_cons_zero, Act.put, List.setIfInBounds_toArray, List.set_cons_zero, List.set_cons_succ]
        refine wpT_one (i := 5) rfl (by kernel_rfl) fun K hK => ?_
        go_simp
        refine (ih c _ _ hcp (fun b h => by have := hB b h; show b < wa.heap.size; omega) ((tyD_of HL'.out HK'.out).keep (w' := wa.drew) (Same.below hba.drew) (fun b h _ => h)) hcg (HS.out.keep (w' := wa.drew) (Same.below (chain hb hba).drew) (fun b h _ => h))).mono ?_
        rintro e w1 ⟨r, rfl, hr, hb1⟩
        obtain ⟨cs, hcs⟩ : ∃ y, sub x s c = y := ⟨_, rfl⟩
        rw [hcs] at hr
        obtain ⟨lr, kr, rfl, hr1, hr2⟩ := hr
        have HR1 := Lib.hid hr1; have HR2 := Lib.hid hr2
        obtain ⟨Ar, pr, rfl, -, -⟩ := hr1
        obtain ⟨Br, qr, rfl, -, -⟩ := hr2
        have hba1 : Below wa.heap.size wa w1 := chain ((Below.refl _ _).drew) hb1
        have hb1' : Below wr.heap.size wr w1 := chain hba hba1
        have hbB1 : Below N0 wr w1 := hb1'.mono hNr
        have hs1 := hb1'.size
        have hs2 := hba1.size
        have hne : ∀ q, q < N0 ∨ q = wr.heap.size → some q ≠ (Value.slice Av k capv).ownBlock := fun q hq e => by
          obtain ⟨h1, h2⟩ := hown.lt q e.symm
          omega
        refine hK.out _ _ (fun _ => HSB.out w1 (Same.below hba1)) ?_
        clear hK K
        try simp only [List.getElem_toArray, List.getElem_cons_succ, List.getElem_cons_zero, Act.put, List.setIfInBounds_toArray, List.set_cons_zero, List.set_cons_succ]
        refine wpT_one (i := 6) rfl (by kernel_rfl) fun K hK => ?_
        go_simp
        have hbA := hbB1.alloc (by omega) (.cells #[.int .i64 cs.kind, .int .i64 cs.sort, .string ⟨cs.name.toArray⟩, .slice Ar cs.labels.length pr, .slice Br cs.kids.length qr] 51)
        have hsA := Below.trans hba1 ((Below.refl _ w1).alloc hs2 (.cells #[.int .i64 cs.kind, .int .i64 cs.sort, .string ⟨cs.name.toArray⟩, .slice Ar cs.labels.length pr, .slice Br cs.kids.length qr] 51))
        refine hK.out _ _ (fun _ => HSB.out _ (Same.below hsA)) ?_
        clear hK K
        try simp only [List.getElem_toArray, List.getElem_cons_succ, List.getElem_cons_zero, Act.put, List.setIfInBounds_toArray, List.set_cons_zero, List.set_cons_succ]
        refine wpT_one (i := 7) rfl (by kernel_rfl) fun K hK => ?_
        refine step_app rt_types rfl (.tmp 52) (.tmp 57) rfl N0 _ k xs rfl ((own_keep hown hb1' (Nat.le_refl _)).alloc _) ⟨w1.heap.size, 0, none⟩ 1 1 [.int .i64 cs.kind, .int .i64 cs.sort, .string ⟨cs.name.toArray⟩, .slice Ar cs.labels.length pr, .slice Br cs.kids.length qr] rfl rfl (five_new _ _ _ _ _ _ _) (by simp [Value.oneCell']) (by unfold maxLen; omega) (by omega) (by rw [World.size_alloc]; omega) (fun v' w3 k1 k2 k3 k4 => ?_)
        obtain ⟨Aw, capw, rfl⟩ := own_form k1
        have hb3 := hbA.trans k4
        refine hK.out _ _ (fun _ => HSB.out _ (Same.trans (Same.below hsA) hsA.size (Same.grown k2 hne))) ?_
        clear hK K
        try simp only [List.getElem_toArray, List.getElem_cons_succ, List.getElem_cons_zero, Act.put, List.setIfInBounds_toArray, List.set_cons_zero, List.set_cons_succ]
        refine wpT_one (i := 8) rfl (by kernel_rfl) fun K hK => ?_
        go_simp
        refine hK.out _ _ (fun h => absurd h (by decide)) ?_
        clear hK K
        try simp only [List.getElem_toArray, List.getElem_cons_succ, List.getElem_cons_zero, Act.put, List.setIfInBounds_toArray, List.set_cons_zero, List.set_cons_succ]
        refine wpT_one (i := 9) rfl (by kernel_rfl) fun K hK => ?_
        have hOB3 := hOB.keep hb3 hbN
        obtain ⟨z0, z1, z2, z3, z4, z5, z6⟩ := id hOB3
        go_simp
        refine hK.out _ _ (fun h => absurd h (by decide)) ?_
        clear hK K
        try simp only [List.getElem_toArray, List.getElem_cons_succ, List.getElem_cons_zero, Act.put, List.setIfInBounds_toArray, List.set_cons_zero, List.set_cons_succ]
        refine wpT_done (by kernel_rfl) ?_
        have hSB4 := (hSB.keep hb3 (by omega)).far (p := ⟨bo, 4, none⟩) (by show _ ≠ _; simp only []; omega) (.slice Aw (k + 1) capw)
        have hRB4 := (hRB.keep hb3 (by omega)).far (p := ⟨bo, 4, none⟩) (by show _ ≠ _; simp only []; omega) (.slice Aw (k + 1) capw)
        have hOB4 := hOB3.set4 (.slice Aw (k + 1) capw)
        have hown4 := own_set k1 (p := ⟨bo, 4, none⟩) hbN (.slice Aw (k + 1) capw)
        have hcells3 := Cells5D.pushed hown (fun b h => by have := hB b h; omega) hNr hcells hb1' (Cells5D.keep (.cons cs _ _ [] [] HR1.out HR2.out .nil) (fun _ _ _ => rfl) (fun b h _ => by rcases h with h | h; exact Or.inl h; (have h' : wa.heap.size ≤ b := h); exact Or.inr (by omega))) ((Below.refl _ _).alloc (Nat.le_refl _) _) k2 k3
        have hcells4 := hcells3.keep (D' := fun b => Out B0 N0 b ∧ some b ≠ (Value.slice Aw (k + 1) capw).ownBlock) (Same.set (p := ⟨bo, 4, none⟩) (u := .slice Aw (k + 1) capw) (fun h => by rcases h.1 with h | h; (have := hB _ h; simp only [] at this; omega); (simp only [] at h; omega))) (fun b h _ => h)
        have he : subs x s (ks.take k) ++ [cs] = subs x s (ks.take (k + 1)) := by rw [subs_take HC.out, hcs]
        rw [he] at hcells4
        have hlab3 := hlab.keep (D' := fun b => w.heap.size + 1 + 1 + 1 ≤ b ∧ b ≠ bo ∧ b < N0) (w' := w3) (fun b h _ => hb3.block b h.2.2) (fun b h _ => h)
        have hlab4 := hlab3.keep (D' := fun b => w.heap.size + 1 + 1 + 1 ≤ b ∧ b ≠ bo ∧ b < N0) (Same.set (p := ⟨bo, 4, none⟩) (u := .slice Aw (k + 1) capw) (fun h => h.2.1 rfl)) (fun b h _ => h)
        have hb4 : Below w.heap.size w (w3.setCell ⟨bo, 4, none⟩ (.slice Aw (k + 1) capw)) := (hb.trans (hb3.mono (by omega))).setCell (by show _ ≤ _; simp only []; omega) _
        have hN4 : N0 ≤ (w3.setCell ⟨bo, 4, none⟩ (.slice Aw (k + 1) capw)).heap.size := by rw [World.size_setCell]; have := hb3.size; omega
        generalize w3.setCell ⟨bo, 4, none⟩ (.slice Aw (k + 1) capw) = w4 at hSB4 hRB4 hOB4 hown4 hcells4 hlab4 hb4 hN4 ⊢
        go_wp2_with fail
        go_roundw
        case rel => exact ⟨k + 1, _, _, by omega, by go_num, hSB4, hRB4, hOB4, hown4, hcells4, hlab4, hb4, hN4⟩
        case measure => simp [intOf]; omega
      · have hk' : k = L := by omega
        subst hk'
        clear hlt
        have htk : ks.take k = ks := List.take_of_length_le (by rw [HL.out]; exact Nat.le_refl _)
        rw [htk] at hcells
        obtain ⟨Av, capv, rfl⟩ := own_form hown
        have hfin : TysD (Out B0 N0) wr (.slice Av k capv) (subs x s ks) := by
          have hl : (subs x s ks).length = k := by rw [subs_len, HL.out]
          exact own_tysD (ts := subs x s ks) (by rw [hl]; exact hown) (hcells.keep (fun _ _ _ => rfl) (fun b h _ => h.1)) (fun b h => Or.inr h)
        obtain ⟨o0, o1, o2, o3, o4, o5, o6⟩ := hOB
        have hF0 := hRB.fill t (.slice A0x L0 p0x) (.slice Av k capv)
        obtain ⟨r0, r1, r2, r3, r4, r5, r6⟩ := hRB
        have HF := Lib.hid hfin; have HLb := Lib.hid hlab
        simp only [Ty.kind, Ty.sort, Ty.name] at r0 r1 r2
        clear hfin hlab hcells hown hSB
        go_wp2_with fail
        have hR := hF0
        have hsame := Same.fill (D := Out B0 N0) (w := wr) (b := w.heap.size + 1 + 1) (by rintro (h | h); (have := hB _ h; omega); omega) (.int .i64 t.kind) (.int .i64 t.sort) (.string ⟨t.name.toArray⟩) (.slice A0x L0 p0x) (.slice Av k capv)
        have hsame2 := Same.fill (D := fun b => w.heap.size + 1 + 1 + 1 ≤ b ∧ b ≠ bo ∧ b < N0) (w := wr) (b := w.heap.size + 1 + 1) (by rintro ⟨h, -⟩; omega) (.int .i64 t.kind) (.int .i64 t.sort) (.string ⟨t.name.toArray⟩) (.slice A0x L0 p0x) (.slice Av k capv)
        have hbel := below_fill hb (b := w.heap.size + 1 + 1) (by omega) (.int .i64 t.kind) (.int .i64 t.sort) (.string ⟨t.name.toArray⟩) (.slice A0x L0 p0x) (.slice Av k capv)
        have hf2 := HF.out.keep (D' := Out B0 w.heap.size) hsame (fun b h _ => by rcases h with h | h; exact Or.inl h; exact Or.inr (by omega))
        have hl2 := HLb.out.keep (D' := Out B0 w.heap.size) hsame2 (fun b h _ => Or.inr (by omega))
        generalize (((((wr.setCell ⟨w.heap.size + 1 + 1, 0, none⟩ (.int .i64 t.kind)).setCell ⟨w.heap.size + 1 + 1, 1, none⟩ (.int .i64 t.sort)).setCell ⟨w.heap.size + 1 + 1, 2, none⟩ (.string ⟨t.name.toArray⟩)).setCell ⟨w.heap.size + 1 + 1, 3, none⟩ (.slice A0x L0 p0x)).setCell ⟨w.heap.size + 1 + 1, 4, none⟩ (.slice Av k capv)) = w5 at hR hbel hf2 hl2 ⊢
        obtain ⟨d0, d1, d2, d3, d4, d5, d6⟩ := hR
        refine bodyPost_ret (v := .agg #[.int .i64 t.kind, .int .i64 t.sort, .string ⟨t.name.toArray⟩, .slice A0x L0 p0x, .slice Av k capv]) (by simp [results, Tryd.results118, go_sem, d0, d1, d2, d3, d4]) rfl ?_
        exact ⟨_, rfl, ⟨_, _, rfl, hl2, hf2⟩, hbel⟩
    
end Go.Proofs.YtcacembpegoghaaDoor
