/-
  What is put in the place of a name: the reference's inPlace answers 'sub'.
-/
import Derived.Test.YtcacembpegoghaaDoorTyD
import Derived.Test.YtcacembpegoghaaDoorHeld
namespace Go.Proofs.YtcacembpegoghaaDoor
open Go.RowKit Go.Proofs

set_option maxRecDepth 100000

def PutSays (f : FuncId) (B0 : Blocks) (t s : Ty) (v vs : Value) (x : Str) (w : World) : Prop :=
  Calls Tryd.prog f #[v, .string ⟨x.toArray⟩, vs] w fun e w' => ∃ r, e = .returned r ∧ TyD (Out B0 w.heap.size) w' r (sub x s t) ∧ Below w.heap.size w w'
theorem subs_take {x : Str} {s : Ty} {ks : List Ty} {k : Nat} {c : Ty} (h : ks[k]? = some c) : subs x s (ks.take (k + 1)) = subs x s (ks.take k) ++ [sub x s c] := by
  obtain ⟨h1, h2⟩ := List.getElem?_eq_some_iff.1 h
  rw [subs_map, subs_map, List.take_add_one, h]
  simp
theorem subs_len (x : Str) (s : Ty) (ks : List Ty) : (subs x s ks).length = ks.length := by rw [subs_map, List.length_map]

set_option maxHeartbeats 2000000 in
theorem inPlace_c (m : Nat) (B0 : Blocks) (ih : ∀ (t s : Ty) (v vs : Value) (x : Str) (w : World), parts t ≤ m → (∀ b, B0 b → b < w.heap.size) → TyD B0 w v t → Good t → TyD B0 w vs s → Good s → PutSays 114 B0 t s v vs x w)
    (t s : Ty) (v vs : Value) (x : Str) (w : World) (hm : parts t ≤ m + 1) (hB : ∀ b, B0 b → b < w.heap.size) (hv : TyD B0 w v t) (hg : Good t) (hvs : TyD B0 w vs s) (hgs : Good s) (hans : sub x s t = .mk t.kind t.sort t.name t.labels (subs x s t.kids)) (h9 : (t.kind == 9) = false) (h8 : (t.kind == 8) = false) :
    PutSays 114 B0 t s v vs x w := by
  unfold PutSays
  rw [hans]
  clear hans
  obtain ⟨lv, kv, rfl, h1, h2⟩ := hv
  have HV := Lib.hid h1
  have HK := Lib.hid h2
  obtain ⟨A0, p0, rfl, -, -⟩ := h1
  obtain ⟨A, cap, rfl, -, -⟩ := h2
  have HS := Lib.hid hvs
  obtain ⟨lv', kv', rfl, h3, h4⟩ := hvs
  obtain ⟨A0', p0', rfl, -, -⟩ := h3
  obtain ⟨A', cap', rfl, -, -⟩ := h4
  have hkl := hg.small.2.2.2
  obtain ⟨ks, hks⟩ : ∃ x, t.kids = x := ⟨_, rfl⟩
  have HG : Hid (∀ c ∈ ks, Good c) := by have := hg.kid; rw [hks] at this; exact this
  have HP : Hid (1 + partss ks ≤ m + 1) := by cases t; subst hks; exact hm
  have HKs := Lib.hid hks
  rw [hks] at HK hkl ⊢
  obtain ⟨L, hL⟩ : ∃ x, ks.length = x := ⟨_, rfl⟩
  have HL := Lib.hid hL
  rw [hL] at HK hkl ⊢
  obtain ⟨L0, hL0⟩ : ∃ x, t.labels.length = x := ⟨_, rfl⟩
  rw [hL0] at HV ⊢
  clear hL hm hL0 hks
  go_enter Tryd.func114, Tryd.ntmps114
  go_wp2_with fail
  go_loopw [8] (fun i wr => ∃ (k : Nat) (rv : Value) (xs : List Value), k ≤ L ∧ i = .int .i64 k ∧ wr.cell? ⟨w.heap.size, 4, none⟩ = some (.slice A L cap) ∧ VBox wr (w.heap.size + 1) s (.slice A0' s.labels.length p0') (.slice A' s.kids.length cap') ∧ VBox wr (w.heap.size + 1 + 1) (.mk 0 0 [] [] []) (.slice none 0 0) (.slice none 0 0) ∧ VBox wr (w.heap.size + 1 + 1 + 1) t (.slice A0 L0 p0) rv ∧
    wr.ownsRow (w.heap.size + 1 + 1 + 1 + 1) 51 5 rv k xs ∧ Cells5D (fun b => Out B0 (w.heap.size + 1 + 1 + 1 + 1) b ∧ some b ≠ rv.ownBlock) wr xs (subs x s (ks.take k)) ∧ Below w.heap.size w wr) (fun i _ => L - (intOf i).toNat)
  case atStart =>
    refine ⟨0, .slice none 0 0, [], by omega, rfl, by simp [go_sem], ⟨by simp [go_sem], by simp [go_sem], by simp [go_sem], by simp [go_sem], by simp [go_sem], fun j => by simp [go_sem], by simp⟩, ⟨by simp [go_sem]; rfl, by simp [go_sem]; rfl, by simp [go_sem]; rfl, by simp [go_sem], by simp [go_sem], fun j => by simp [go_sem], by simp⟩, ⟨by simp [go_sem], by simp [go_sem], by simp [go_sem], by simp [go_sem], by simp [go_sem], fun j => by simp [go_sem], by simp⟩, World.ownsRow_nil _ _ _ _, .nil, by go_grown⟩
  case round =>
    obtain ⟨k, rv, xs, hk, rfl, hT, hSB, hRB, hOB, hown, hcells, hb⟩ := hrel
    have hwr : w.heap.size + 1 + 1 + 1 + 1 ≤ wr.heap.size := hOB.lt
    by_cases hlt : k < L
    · obtain ⟨c, hc⟩ : ∃ x, ks[k]? = some x := ⟨_, List.getElem?_eq_getElem (by rw [HL.out]; exact hlt)⟩
      have HC := Lib.hid hc
      have hkid := kid_atD (HK.out.keep (D' := B0) (Same.below hb) (fun b h _ => h)) hc
      obtain ⟨-, -, b, off, A1, n1, p1, A2, n2, p2, rfl, hbB, c0, c1, c2, c3, c4, hl', hk'⟩ := hkid
      have HL' := Lib.hid hl'; have HK' := Lib.hid hk'; clear hl' hk'
      have hcp : parts c ≤ m := by have h1 := parts_at (mem_of_at HC.out); have h2 := HP.out; omega
      have hcg : Good c := HG.out c (mem_of_at HC.out)
      have hbB' : b < w.heap.size + 1 + 1 + 1 + 1 := by have := hB b hbB; omega
      obtain ⟨Av, capv, rfl⟩ := own_form hown
      obtain ⟨s0, s1, s2, s3, s4, s5, s6⟩ := hSB
      obtain ⟨o0, o1, o2, o3, o4, o5, o6⟩ := id hOB
      have hS : ∀ w' : World, Below (w.heap.size + 1 + 1 + 1 + 1) wr w' → (fun w' : World => w'.cell? ⟨w.heap.size, 4, none⟩ = some (.slice (some ⟨b, off, none⟩) L cap) ∧ w'.cell? ⟨w.heap.size + 1 + 1 + 1, 4, none⟩ = some (.slice Av k capv) ∧ w'.cell? ⟨b, off + k * 5, none⟩ = some (.int .i64 c.kind) ∧ w'.cell? ⟨b, off + k * 5 + 1, none⟩ = some (.int .i64 c.sort) ∧ w'.cell? ⟨b, off + k * 5 + 2, none⟩ = some (.string ⟨c.name.toArray⟩) ∧ w'.cell? ⟨b, off + k * 5 + 3, none⟩ = some (.slice A1 n1 p1) ∧ w'.cell? ⟨b, off + k * 5 + 4, none⟩ = some (.slice A2 n2 p2) ∧ w'.cell? ⟨w.heap.size + 1, 0, none⟩ = some (.int .i64 s.kind) ∧ w'.cell? ⟨w.heap.size + 1, 1, none⟩ = some (.int .i64 s.sort) ∧ w'.cell? ⟨w.heap.size + 1, 2, none⟩ = some (.string ⟨s.name.toArray⟩) ∧ w'.cell? ⟨w.heap.size + 1, 3, none⟩ = some (.slice A0' s.labels.length p0') ∧ w'.cell? ⟨w.heap.size + 1, 4, none⟩ = some (.slice A' s.kids.length cap')) w' := fun w' h => ⟨(h.cell (p := ⟨w.heap.size, 4, none⟩) (by first | exact hbB' | (show _ < _; simp only []; omega) | (dsimp only; omega))).trans hT, (h.cell (p := ⟨w.heap.size + 1 + 1 + 1, 4, none⟩) (by first | exact hbB' | (show _ < _; simp only []; omega) | (dsimp only; omega))).trans o4, (h.cell (p := ⟨b, off + k * 5, none⟩) (by first | exact hbB' | (show _ < _; simp only []; omega) | (dsimp only; omega))).trans c0, (h.cell (p := ⟨b, off + k * 5 + 1, none⟩) (by first | exact hbB' | (show _ < _; simp only []; omega) | (dsimp only; omega))).trans c1, (h.cell (p := ⟨b, off + k * 5 + 2, none⟩) (by first | exact hbB' | (show _ < _; simp only []; omega) | (dsimp only; omega))).trans c2, (h.cell (p := ⟨b, off + k * 5 + 3, none⟩) (by first | exact hbB' | (show _ < _; simp only []; omega) | (dsimp only; omega))).trans c3, (h.cell (p := ⟨b, off + k * 5 + 4, none⟩) (by first | exact hbB' | (show _ < _; simp only []; omega) | (dsimp only; omega))).trans c4, (h.cell (p := ⟨w.heap.size + 1, 0, none⟩) (by first | exact hbB' | (show _ < _; simp only []; omega) | (dsimp only; omega))).trans s0, (h.cell (p := ⟨w.heap.size + 1, 1, none⟩) (by first | exact hbB' | (show _ < _; simp only []; omega) | (dsimp only; omega))).trans s1, (h.cell (p := ⟨w.heap.size + 1, 2, none⟩) (by first | exact hbB' | (show _ < _; simp only []; omega) | (dsimp only; omega))).trans s2, (h.cell (p := ⟨w.heap.size + 1, 3, none⟩) (by first | exact hbB' | (show _ < _; simp only []; omega) | (dsimp only; omega))).trans s3, (h.cell (p := ⟨w.heap.size + 1, 4, none⟩) (by first | exact hbB' | (show _ < _; simp only []; omega) | (dsimp only; omega))).trans s4⟩
      have HSd := Lib.hid (hS wr.drew (Below.refl _ _).drew)
      have HSB := Lib.hid hS; clear hS
      clear hc
      go_wp2_with fail
      refine wp_region_T 12 (fun w' : World => w'.cell? ⟨w.heap.size, 4, none⟩ = some (.slice (some ⟨b, off, none⟩) L cap) ∧ w'.cell? ⟨w.heap.size + 1 + 1 + 1, 4, none⟩ = some (.slice Av k capv) ∧ w'.cell? ⟨b, off + k * 5, none⟩ = some (.int .i64 c.kind) ∧ w'.cell? ⟨b, off + k * 5 + 1, none⟩ = some (.int .i64 c.sort) ∧ w'.cell? ⟨b, off + k * 5 + 2, none⟩ = some (.string ⟨c.name.toArray⟩) ∧ w'.cell? ⟨b, off + k * 5 + 3, none⟩ = some (.slice A1 n1 p1) ∧ w'.cell? ⟨b, off + k * 5 + 4, none⟩ = some (.slice A2 n2 p2) ∧ w'.cell? ⟨w.heap.size + 1, 0, none⟩ = some (.int .i64 s.kind) ∧ w'.cell? ⟨w.heap.size + 1, 1, none⟩ = some (.int .i64 s.sort) ∧ w'.cell? ⟨w.heap.size + 1, 2, none⟩ = some (.string ⟨s.name.toArray⟩) ∧ w'.cell? ⟨w.heap.size + 1, 3, none⟩ = some (.slice A0' s.labels.length p0') ∧ w'.cell? ⟨w.heap.size + 1, 4, none⟩ = some (.slice A' s.kids.length cap')) (by kernel_rfl) ?_
      refine wpT_take (i := 0) (v := ?_) rfl (by kernel_rfl) (by kernel_rfl) (by kernel_rfl) (by kernel_rfl) (fun _ _ _ h => h) (Or.inl ⟨by rfl, ?_⟩) HSd.out ?_
      rotate_left
      · (intro wq hSw; obtain ⟨q0, q1, q2, q3, q4, q5, q6, q7, q8, q9, q10, q11⟩ := hSw; go_simp; all_goals (with_reducible rfl))
      simp only [List.getElem_toArray, List.getElem_cons_succ, List.getElem_cons_zero, Act.put, List.setIfInBounds_toArray, List.set_cons_zero, List.set_cons_succ]
      refine wpT_take (i := 1) (v := ?_) rfl (by kernel_rfl) (by kernel_rfl) (by kernel_rfl) (by kernel_rfl) (fun _ _ _ h => h) (Or.inl ⟨by rfl, ?_⟩) HSd.out ?_
      rotate_left
      · (intro wq hSw; obtain ⟨q0, q1, q2, q3, q4, q5, q6, q7, q8, q9, q10, q11⟩ := hSw; go_simp; all_goals (with_reducible rfl))
      simp only [List.getElem_toArray, List.getElem_cons_succ, List.getElem_cons_zero, Act.put, List.setIfInBounds_toArray, List.set_cons_zero, List.set_cons_succ]
      refine wpT_take (i := 2) (v := ?_) rfl (by kernel_rfl) (by kernel_rfl) (by kernel_rfl) (by kernel_rfl) (fun _ _ _ h => h) (Or.inl ⟨by rfl, ?_⟩) HSd.out ?_
      rotate_left
      · (intro wq hSw; obtain ⟨q0, q1, q2, q3, q4, q5, q6, q7, q8, q9, q10, q11⟩ := hSw; go_simp; all_goals (with_reducible rfl))
      simp only [List.getElem_toArray, List.getElem_cons_succ, List.getElem_cons_zero, Act.put, List.setIfInBounds_toArray, List.set_cons_zero, List.set_cons_succ]
      refine wpT_take (i := 3) (v := ?_) rfl (by kernel_rfl) (by kernel_rfl) (by kernel_rfl) (by kernel_rfl) (fun _ _ _ h => h) (Or.inl ⟨by rfl, ?_⟩) HSd.out ?_
      rotate_left
      · (intro wq hSw; obtain ⟨q0, q1, q2, q3, q4, q5, q6, q7, q8, q9, q10, q11⟩ := hSw; go_simp; all_goals (with_reducible rfl))
      simp only [List.getElem_toArray, List.getElem_cons_succ, List.getElem_cons_zero, Act.put, List.setIfInBounds_toArray, List.set_cons_zero, List.set_cons_succ]
      refine wpT_take (i := 4) (v := ?_) rfl (by kernel_rfl) (by kernel_rfl) (by kernel_rfl) (by kernel_rfl) (fun _ _ _ h => h) (Or.inl ⟨by rfl, ?_⟩) HSd.out ?_
      rotate_left
      · (intro wq hSw; obtain ⟨q0, q1, q2, q3, q4, q5, q6, q7, q8, q9, q10, q11⟩ := hSw; go_simp; all_goals (with_reducible rfl))
      simp only [List.getElem_toArray, List.getElem_cons_succ, List.getElem_cons_zero, Act.put, List.setIfInBounds_toArray, List.set_cons_zero, List.set_cons_succ]
      refine wpT_take (i := 5) (v := ?_) rfl (by kernel_rfl) (by kernel_rfl) (by kernel_rfl) (by kernel_rfl) (fun _ _ _ h => h) (Or.inl ⟨by rfl, ?_⟩) HSd.out ?_
      rotate_left
      · (intro wq hSw; obtain ⟨q0, q1, q2, q3, q4, q5, q6, q7, q8, q9, q10, q11⟩ := hSw; go_simp; all_goals (with_reducible rfl))
      simp only [List.getElem_toArray, List.getElem_cons_succ, List.getElem_cons_zero, Act.put, List.setIfInBounds_toArray, List.set_cons_zero, List.set_cons_succ]
      refine wpT_take (i := 6) (v := ?_) rfl (by kernel_rfl) (by kernel_rfl) (by kernel_rfl) (by kernel_rfl) (fun _ _ _ h => h) (Or.inl ⟨by rfl, ?_⟩) HSd.out ?_
      rotate_left
      · (intro wq hSw; obtain ⟨q0, q1, q2, q3, q4, q5, q6, q7, q8, q9, q10, q11⟩ := hSw; go_simp; all_goals (with_reducible rfl))
      simp only [List.getElem_toArray, List.getElem_cons_succ, List.getElem_cons_zero, Act.put, List.setIfInBounds_toArray, List.set_cons_zero, List.set_cons_succ]
      refine wpT_take (i := 7) (v := ?_) rfl (by kernel_rfl) (by kernel_rfl) (by kernel_rfl) (by kernel_rfl) (fun _ _ _ h => h) (Or.inl ⟨by rfl, ?_⟩) HSd.out ?_
      rotate_left
      · (intro wq hSw; obtain ⟨q0, q1, q2, q3, q4, q5, q6, q7, q8, q9, q10, q11⟩ := hSw; go_simp; all_goals (with_reducible rfl))
      simp only [List.getElem_toArray, List.getElem_cons_succ, List.getElem_cons_zero, Act.put, List.setIfInBounds_toArray, List.set_cons_zero, List.set_cons_succ]
      refine wpT_take (i := 8) (v := ?_) rfl (by kernel_rfl) (by kernel_rfl) (by kernel_rfl) (by kernel_rfl) (fun _ _ _ h => h) (Or.inl ⟨by rfl, ?_⟩) HSd.out ?_
      rotate_left
      · (intro wq hSw; obtain ⟨q0, q1, q2, q3, q4, q5, q6, q7, q8, q9, q10, q11⟩ := hSw; go_simp; all_goals (with_reducible rfl))
      simp only [List.getElem_toArray, List.getElem_cons_succ, List.getElem_cons_zero, Act.put, List.setIfInBounds_toArray, List.set_cons_zero, List.set_cons_succ]
      refine wpT_one (i := 9) rfl (by kernel_rfl) fun K hK => ?_
      go_simp
      refine (ih c s _ _ x _ hcp (fun b h => by have := hB b h; show b < wr.heap.size; omega) ((tyD_of HL'.out HK'.out).keep (w' := wr.drew) (fun _ _ _ => rfl) (fun b h _ => h)) hcg (HS.out.keep (w' := wr.drew) (Same.below (hb.drew)) (fun b h _ => h)) hgs).mono ?_
      rintro e w1 ⟨r, rfl, hr, hb1⟩
      obtain ⟨cs, hcs⟩ : ∃ y, sub x s c = y := ⟨_, rfl⟩
      rw [hcs] at hr
      obtain ⟨lr, kr, rfl, hr1, hr2⟩ := hr
      have HR1 := Lib.hid hr1; have HR2 := Lib.hid hr2
      obtain ⟨Ar, pr, rfl, -, -⟩ := hr1
      obtain ⟨Br, qr, rfl, -, -⟩ := hr2
      have hb1' : Below wr.heap.size wr w1 := chain ((Below.refl _ _).drew) hb1
      have hbB1 : Below (w.heap.size + 1 + 1 + 1 + 1) wr w1 := hb1'.mono hwr
      have hs1 := hb1'.size
      refine hK.out _ _ (fun _ => HSB.out w1 hbB1) ?_
      clear hK K
      try simp only [List.getElem_toArray, List.getElem_cons_succ, List.getElem_cons_zero, Act.put, List.setIfInBounds_toArray, List.set_cons_zero, List.set_cons_succ]
      refine wpT_one (i := 10) rfl (by kernel_rfl) fun K hK => ?_
      go_simp
      have hbA := hbB1.alloc (by omega) (.cells #[.int .i64 cs.kind, .int .i64 cs.sort, .string ⟨cs.name.toArray⟩, .slice Ar cs.labels.length pr, .slice Br cs.kids.length qr] 51)
      refine hK.out _ _ (fun _ => HSB.out _ hbA) ?_
      clear hK K
      try simp only [List.getElem_toArray, List.getElem_cons_succ, List.getElem_cons_zero, Act.put, List.setIfInBounds_toArray, List.set_cons_zero, List.set_cons_succ]
      refine wpT_one (i := 11) rfl (by kernel_rfl) fun K hK => ?_
      refine step_app rt_types rfl (.tmp 39) (.tmp 48) rfl (w.heap.size + 1 + 1 + 1 + 1) _ k xs rfl ((own_keep hown hb1' (Nat.le_refl _)).alloc _) ⟨w1.heap.size, 0, none⟩ 1 1 [.int .i64 cs.kind, .int .i64 cs.sort, .string ⟨cs.name.toArray⟩, .slice Ar cs.labels.length pr, .slice Br cs.kids.length qr] rfl rfl (five_new _ _ _ _ _ _ _) (by simp [Value.oneCell']) (by unfold maxLen; omega) (by omega) (by rw [World.size_alloc]; omega) (fun v' w3 k1 k2 k3 k4 => ?_)
      obtain ⟨Aw, capw, rfl⟩ := own_form k1
      have hb3 := hbA.trans k4
      refine hK.out _ _ (fun _ => HSB.out _ hb3) ?_
      clear hK K
      try simp only [List.getElem_toArray, List.getElem_cons_succ, List.getElem_cons_zero, Act.put, List.setIfInBounds_toArray, List.set_cons_zero, List.set_cons_succ]
      refine wpT_one (i := 12) rfl (by kernel_rfl) fun K hK => ?_
      go_simp
      refine hK.out _ _ (fun h => absurd h (by decide)) ?_
      clear hK K
      try simp only [List.getElem_toArray, List.getElem_cons_succ, List.getElem_cons_zero, Act.put, List.setIfInBounds_toArray, List.set_cons_zero, List.set_cons_succ]
      refine wpT_one (i := 13) rfl (by kernel_rfl) fun K hK => ?_
      have hOB3 := hOB.keep hb3 (by omega)
      obtain ⟨z0, z1, z2, z3, z4, z5, z6⟩ := id hOB3
      go_simp
      refine hK.out _ _ (fun h => absurd h (by decide)) ?_
      clear hK K
      try simp only [List.getElem_toArray, List.getElem_cons_succ, List.getElem_cons_zero, Act.put, List.setIfInBounds_toArray, List.set_cons_zero, List.set_cons_succ]
      refine wpT_done (by kernel_rfl) ?_
      have hbox : (w3.setCell ⟨w.heap.size + 1 + 1 + 1, 4, none⟩ (.slice Aw (k + 1) capw)).cell? ⟨w.heap.size, 4, none⟩ = some (.slice (some ⟨b, off, none⟩) L cap) := by
        rw [World.cell?_setCell_far w3 _ _ _ (by show _ ≠ _; simp only []; omega)]
        exact (HSB.out w3 hb3).1
      have hSB4 := (VBox.keep ⟨s0, s1, s2, s3, s4, s5, s6⟩ hb3 (by omega)).far (p := ⟨w.heap.size + 1 + 1 + 1, 4, none⟩) (by show _ ≠ _; simp only []; omega) (.slice Aw (k + 1) capw)
      have hRB4 := (hRB.keep hb3 (by omega)).far (p := ⟨w.heap.size + 1 + 1 + 1, 4, none⟩) (by show _ ≠ _; simp only []; omega) (.slice Aw (k + 1) capw)
      have hOB4 := hOB3.set4 (.slice Aw (k + 1) capw)
      have hown4 := own_set k1 (p := ⟨w.heap.size + 1 + 1 + 1, 4, none⟩) (by show _ < _; simp only []; omega) (.slice Aw (k + 1) capw)
      have hcells3 := Cells5D.pushed hown (fun b h => by have := hB b h; omega) hwr hcells hb1' (.cons cs _ _ [] [] HR1.out HR2.out .nil) ((Below.refl _ _).alloc (Nat.le_refl _) _) k2 k3
      have hcells4 := hcells3.keep (D' := fun b => Out B0 (w.heap.size + 1 + 1 + 1 + 1) b ∧ some b ≠ (Value.slice Aw (k + 1) capw).ownBlock) (Same.set (p := ⟨w.heap.size + 1 + 1 + 1, 4, none⟩) (u := .slice Aw (k + 1) capw) (fun h => by rcases h.1 with h | h; (have := hB _ h; simp only [] at this; omega); (simp only [] at h; omega))) (fun b h _ => h)
      have he : subs x s (ks.take k) ++ [cs] = subs x s (ks.take (k + 1)) := by rw [subs_take HC.out, hcs]
      rw [he] at hcells4
      have hb4 : Below w.heap.size w (w3.setCell ⟨w.heap.size + 1 + 1 + 1, 4, none⟩ (.slice Aw (k + 1) capw)) := (hb.trans (hb3.mono (by omega))).setCell (by show _ ≤ _; simp only []; omega) _
      generalize w3.setCell ⟨w.heap.size + 1 + 1 + 1, 4, none⟩ (.slice Aw (k + 1) capw) = w4 at hbox hSB4 hRB4 hOB4 hown4 hcells4 hb4 ⊢
      go_wp2_with fail
      go_roundw
      case rel => exact ⟨k + 1, _, _, by omega, by go_num, hbox, hSB4, hRB4, hOB4, hown4, hcells4, hb4⟩
      case measure => simp [intOf]; omega
    · have hk' : k = L := by omega
      subst hk'
      clear hlt
      have htk : ks.take k = ks := List.take_of_length_le (by rw [HL.out]; exact Nat.le_refl _)
      rw [htk] at hcells
      obtain ⟨Av, capv, rfl⟩ := own_form hown
      have hfin : TysD (Out B0 (w.heap.size + 1 + 1 + 1 + 1)) wr (.slice Av k capv) (subs x s ks) := by
        have hl : (subs x s ks).length = k := by rw [subs_len, HL.out]
        exact own_tysD (ts := subs x s ks) (by rw [hl]; exact hown) (hcells.keep (fun _ _ _ => rfl) (fun b h _ => h.1)) (fun b h => Or.inr h)
      have hlab : StrsD (Out B0 (w.heap.size + 1 + 1 + 1 + 1)) wr (.slice A0 L0 p0) t.labels := HV.out.keep (Same.below hb) (fun b h _ => Or.inl h)
      obtain ⟨o0, o1, o2, o3, o4, o5, o6⟩ := hOB
      obtain ⟨r0, r1, r2, r3, r4, r5, r6⟩ := hRB
      have HF := Lib.hid hfin; have HLb := Lib.hid hlab
      simp only [Ty.kind, Ty.sort, Ty.name] at r0 r1 r2
      clear hfin hlab hcells hown hSB
      go_wp2_with fail
      have hR := VBox.fill (⟨r0, r1, r2, r3, r4, r5, r6⟩ : VBox wr (w.heap.size + 1 + 1) (.mk 0 0 [] [] []) (.slice none 0 0) (.slice none 0 0)) t (.slice A0 L0 p0) (.slice Av k capv)
      have hsame := Same.fill (D := Out B0 (w.heap.size + 1 + 1 + 1 + 1)) (w := wr) (b := w.heap.size + 1 + 1) (by rintro (h | h); (have := hB _ h; omega); omega) (.int .i64 t.kind) (.int .i64 t.sort) (.string ⟨t.name.toArray⟩) (.slice A0 L0 p0) (.slice Av k capv)
      have hbel := below_fill hb (b := w.heap.size + 1 + 1) (by omega) (.int .i64 t.kind) (.int .i64 t.sort) (.string ⟨t.name.toArray⟩) (.slice A0 L0 p0) (.slice Av k capv)
      have hf2 := HF.out.keep (D' := Out B0 w.heap.size) hsame (fun b h _ => by rcases h with h | h; exact Or.inl h; exact Or.inr (by omega))
      have hl2 := HLb.out.keep (D' := Out B0 w.heap.size) hsame (fun b h _ => by rcases h with h | h; exact Or.inl h; exact Or.inr (by omega))
      generalize (((((wr.setCell ⟨w.heap.size + 1 + 1, 0, none⟩ (.int .i64 t.kind)).setCell ⟨w.heap.size + 1 + 1, 1, none⟩ (.int .i64 t.sort)).setCell ⟨w.heap.size + 1 + 1, 2, none⟩ (.string ⟨t.name.toArray⟩)).setCell ⟨w.heap.size + 1 + 1, 3, none⟩ (.slice A0 L0 p0)).setCell ⟨w.heap.size + 1 + 1, 4, none⟩ (.slice Av k capv)) = w5 at hR hbel hf2 hl2 ⊢
      obtain ⟨d0, d1, d2, d3, d4, d5, d6⟩ := hR
      refine bodyPost_ret (v := .agg #[.int .i64 t.kind, .int .i64 t.sort, .string ⟨t.name.toArray⟩, .slice A0 L0 p0, .slice Av k capv]) (by simp [results, Tryd.results114, go_sem, d0, d1, d2, d3, d4]) rfl ?_
      exact ⟨_, rfl, ⟨_, _, rfl, hl2, hf2⟩, hbel⟩

set_option maxHeartbeats 2000000 in
theorem inPlace_v (m : Nat) (B0 : Blocks) (ih : ∀ (t s : Ty) (v vs : Value) (x : Str) (w : World), parts t ≤ m → (∀ b, B0 b → b < w.heap.size) → TyD B0 w v t → Good t → TyD B0 w vs s → Good s → PutSays 114 B0 t s v vs x w)
    (t s : Ty) (v vs : Value) (x : Str) (w : World) (hm : parts t ≤ m + 1) (hB : ∀ b, B0 b → b < w.heap.size) (hv : TyD B0 w v t) (hg : Good t) (hvs : TyD B0 w vs s) (hgs : Good s) (hans : sub x s t = .mk t.kind t.sort t.name t.labels (subs x s t.kids)) (h9 : (t.kind == 9) = true) (hn : (t.name == x) = false) (h8 : (t.kind == 8) = false) :
    PutSays 114 B0 t s v vs x w := by
  unfold PutSays
  rw [hans]
  clear hans
  obtain ⟨lv, kv, rfl, h1, h2⟩ := hv
  have HV := Lib.hid h1
  have HK := Lib.hid h2
  obtain ⟨A0, p0, rfl, -, -⟩ := h1
  obtain ⟨A, cap, rfl, -, -⟩ := h2
  have HS := Lib.hid hvs
  obtain ⟨lv', kv', rfl, h3, h4⟩ := hvs
  obtain ⟨A0', p0', rfl, -, -⟩ := h3
  obtain ⟨A', cap', rfl, -, -⟩ := h4
  have hkl := hg.small.2.2.2
  obtain ⟨ks, hks⟩ : ∃ x, t.kids = x := ⟨_, rfl⟩
  have HG : Hid (∀ c ∈ ks, Good c) := by have := hg.kid; rw [hks] at this; exact this
  have HP : Hid (1 + partss ks ≤ m + 1) := by cases t; subst hks; exact hm
  have HKs := Lib.hid hks
  rw [hks] at HK hkl ⊢
  obtain ⟨L, hL⟩ : ∃ x, ks.length = x := ⟨_, rfl⟩
  have HL := Lib.hid hL
  rw [hL] at HK hkl ⊢
  obtain ⟨L0, hL0⟩ : ∃ x, t.labels.length = x := ⟨_, rfl⟩
  rw [hL0] at HV ⊢
  clear hL hm hL0 hks
  go_enter Tryd.func114, Tryd.ntmps114
  go_wp2_with fail
  go_loopw [8] (fun i wr => ∃ (k : Nat) (rv : Value) (xs : List Value), k ≤ L ∧ i = .int .i64 k ∧ wr.cell? ⟨w.heap.size, 4, none⟩ = some (.slice A L cap) ∧ VBox wr (w.heap.size + 1) s (.slice A0' s.labels.length p0') (.slice A' s.kids.length cap') ∧ VBox wr (w.heap.size + 1 + 1) (.mk 0 0 [] [] []) (.slice none 0 0) (.slice none 0 0) ∧ VBox wr (w.heap.size + 1 + 1 + 1) t (.slice A0 L0 p0) rv ∧
    wr.ownsRow (w.heap.size + 1 + 1 + 1 + 1) 51 5 rv k xs ∧ Cells5D (fun b => Out B0 (w.heap.size + 1 + 1 + 1 + 1) b ∧ some b ≠ rv.ownBlock) wr xs (subs x s (ks.take k)) ∧ Below w.heap.size w wr) (fun i _ => L - (intOf i).toNat)
  case atStart =>
    refine ⟨0, .slice none 0 0, [], by omega, rfl, by simp [go_sem], ⟨by simp [go_sem], by simp [go_sem], by simp [go_sem], by simp [go_sem], by simp [go_sem], fun j => by simp [go_sem], by simp⟩, ⟨by simp [go_sem]; rfl, by simp [go_sem]; rfl, by simp [go_sem]; rfl, by simp [go_sem], by simp [go_sem], fun j => by simp [go_sem], by simp⟩, ⟨by simp [go_sem], by simp [go_sem], by simp [go_sem], by simp [go_sem], by simp [go_sem], fun j => by simp [go_sem], by simp⟩, World.ownsRow_nil _ _ _ _, .nil, by go_grown⟩
  case round =>
    obtain ⟨k, rv, xs, hk, rfl, hT, hSB, hRB, hOB, hown, hcells, hb⟩ := hrel
    have hwr : w.heap.size + 1 + 1 + 1 + 1 ≤ wr.heap.size := hOB.lt
    by_cases hlt : k < L
    · obtain ⟨c, hc⟩ : ∃ x, ks[k]? = some x := ⟨_, List.getElem?_eq_getElem (by rw [HL.out]; exact hlt)⟩
      have HC := Lib.hid hc
      have hkid := kid_atD (HK.out.keep (D' := B0) (Same.below hb) (fun b h _ => h)) hc
      obtain ⟨-, -, b, off, A1, n1, p1, A2, n2, p2, rfl, hbB, c0, c1, c2, c3, c4, hl', hk'⟩ := hkid
      have HL' := Lib.hid hl'; have HK' := Lib.hid hk'; clear hl' hk'
      have hcp : parts c ≤ m := by have h1 := parts_at (mem_of_at HC.out); have h2 := HP.out; omega
      have hcg : Good c := HG.out c (mem_of_at HC.out)
      have hbB' : b < w.heap.size + 1 + 1 + 1 + 1 := by have := hB b hbB; omega
      obtain ⟨Av, capv, rfl⟩ := own_form hown
      obtain ⟨s0, s1, s2, s3, s4, s5, s6⟩ := hSB
      obtain ⟨o0, o1, o2, o3, o4, o5, o6⟩ := id hOB
      have hS : ∀ w' : World, Below (w.heap.size + 1 + 1 + 1 + 1) wr w' → (fun w' : World => w'.cell? ⟨w.heap.size, 4, none⟩ = some (.slice (some ⟨b, off, none⟩) L cap) ∧ w'.cell? ⟨w.heap.size + 1 + 1 + 1, 4, none⟩ = some (.slice Av k capv) ∧ w'.cell? ⟨b, off + k * 5, none⟩ = some (.int .i64 c.kind) ∧ w'.cell? ⟨b, off + k * 5 + 1, none⟩ = some (.int .i64 c.sort) ∧ w'.cell? ⟨b, off + k * 5 + 2, none⟩ = some (.string ⟨c.name.toArray⟩) ∧ w'.cell? ⟨b, off + k * 5 + 3, none⟩ = some (.slice A1 n1 p1) ∧ w'.cell? ⟨b, off + k * 5 + 4, none⟩ = some (.slice A2 n2 p2) ∧ w'.cell? ⟨w.heap.size + 1, 0, none⟩ = some (.int .i64 s.kind) ∧ w'.cell? ⟨w.heap.size + 1, 1, none⟩ = some (.int .i64 s.sort) ∧ w'.cell? ⟨w.heap.size + 1, 2, none⟩ = some (.string ⟨s.name.toArray⟩) ∧ w'.cell? ⟨w.heap.size + 1, 3, none⟩ = some (.slice A0' s.labels.length p0') ∧ w'.cell? ⟨w.heap.size + 1, 4, none⟩ = some (.slice A' s.kids.length cap')) w' := fun w' h => ⟨(h.cell (p := ⟨w.heap.size, 4, none⟩) (by first | exact hbB' | (show _ < _; simp only []; omega) | (dsimp only; omega))).trans hT, (h.cell (p := ⟨w.heap.size + 1 + 1 + 1, 4, none⟩) (by first | exact hbB' | (show _ < _; simp only []; omega) | (dsimp only; omega))).trans o4, (h.cell (p := ⟨b, off + k * 5, none⟩) (by first | exact hbB' | (show _ < _; simp only []; omega) | (dsimp only; omega))).trans c0, (h.cell (p := ⟨b, off + k * 5 + 1, none⟩) (by first | exact hbB' | (show _ < _; simp only []; omega) | (dsimp only; omega))).trans c1, (h.cell (p := ⟨b, off + k * 5 + 2, none⟩) (by first | exact hbB' | (show _ < _; simp only []; omega) | (dsimp only; omega))).trans c2, (h.cell (p := ⟨b, off + k * 5 + 3, none⟩) (by first | exact hbB' | (show _ < _; simp only []; omega) | (dsimp only; omega))).trans c3, (h.cell (p := ⟨b, off + k * 5 + 4, none⟩) (by first | exact hbB' | (show _ < _; simp only []; omega) | (dsimp only; omega))).trans c4, (h.cell (p := ⟨w.heap.size + 1, 0, none⟩) (by first | exact hbB' | (show _ < _; simp only []; omega) | (dsimp only; omega))).trans s0, (h.cell (p := ⟨w.heap.size + 1, 1, none⟩) (by first | exact hbB' | (show _ < _; simp only []; omega) | (dsimp only; omega))).trans s1, (h.cell (p := ⟨w.heap.size + 1, 2, none⟩) (by first | exact hbB' | (show _ < _; simp only []; omega) | (dsimp only; omega))).trans s2, (h.cell (p := ⟨w.heap.size + 1, 3, none⟩) (by first | exact hbB' | (show _ < _; simp only []; omega) | (dsimp only; omega))).trans s3, (h.cell (p := ⟨w.heap.size + 1, 4, none⟩) (by first | exact hbB' | (show _ < _; simp only []; omega) | (dsimp only; omega))).trans s4⟩
      have HSd := Lib.hid (hS wr.drew (Below.refl _ _).drew)
      have HSB := Lib.hid hS; clear hS
      clear hc
      go_wp2_with fail
      refine wp_region_T 12 (fun w' : World => w'.cell? ⟨w.heap.size, 4, none⟩ = some (.slice (some ⟨b, off, none⟩) L cap) ∧ w'.cell? ⟨w.heap.size + 1 + 1 + 1, 4, none⟩ = some (.slice Av k capv) ∧ w'.cell? ⟨b, off + k * 5, none⟩ = some (.int .i64 c.kind) ∧ w'.cell? ⟨b, off + k * 5 + 1, none⟩ = some (.int .i64 c.sort) ∧ w'.cell? ⟨b, off + k * 5 + 2, none⟩ = some (.string ⟨c.name.toArray⟩) ∧ w'.cell? ⟨b, off + k * 5 + 3, none⟩ = some (.slice A1 n1 p1) ∧ w'.cell? ⟨b, off + k * 5 + 4, none⟩ = some (.slice A2 n2 p2) ∧ w'.cell? ⟨w.heap.size + 1, 0, none⟩ = some (.int .i64 s.kind) ∧ w'.cell? ⟨w.heap.size + 1, 1, none⟩ = some (.int .i64 s.sort) ∧ w'.cell? ⟨w.heap.size + 1, 2, none⟩ = some (.string ⟨s.name.toArray⟩) ∧ w'.cell? ⟨w.heap.size + 1, 3, none⟩ = some (.slice A0' s.labels.length p0') ∧ w'.cell? ⟨w.heap.size + 1, 4, none⟩ = some (.slice A' s.kids.length cap')) (by kernel_rfl) ?_
      refine wpT_take (i := 0) (v := ?_) rfl (by kernel_rfl) (by kernel_rfl) (by kernel_rfl) (by kernel_rfl) (fun _ _ _ h => h) (Or.inl ⟨by rfl, ?_⟩) HSd.out ?_
      rotate_left
      · (intro wq hSw; obtain ⟨q0, q1, q2, q3, q4, q5, q6, q7, q8, q9, q10, q11⟩ := hSw; go_simp; all_goals (with_reducible rfl))
      simp only [List.getElem_toArray, List.getElem_cons_succ, List.getElem_cons_zero, Act.put, List.setIfInBounds_toArray, List.set_cons_zero, List.set_cons_succ]
      refine wpT_take (i := 1) (v := ?_) rfl (by kernel_rfl) (by kernel_rfl) (by kernel_rfl) (by kernel_rfl) (fun _ _ _ h => h) (Or.inl ⟨by rfl, ?_⟩) HSd.out ?_
      rotate_left
      · (intro wq hSw; obtain ⟨q0, q1, q2, q3, q4, q5, q6, q7, q8, q9, q10, q11⟩ := hSw; go_simp; all_goals (with_reducible rfl))
      simp only [List.getElem_toArray, List.getElem_cons_succ, List.getElem_cons_zero, Act.put, List.setIfInBounds_toArray, List.set_cons_zero, List.set_cons_succ]
      refine wpT_take (i := 2) (v := ?_) rfl (by kernel_rfl) (by kernel_rfl) (by kernel_rfl) (by kernel_rfl) (fun _ _ _ h => h) (Or.inl ⟨by rfl, ?_⟩) HSd.out ?_
      rotate_left
      · (intro wq hSw; obtain ⟨q0, q1, q2, q3, q4, q5, q6, q7, q8, q9, q10, q11⟩ := hSw; go_simp; all_goals (with_reducible rfl))
      simp only [List.getElem_toArray, List.getElem_cons_succ, List.getElem_cons_zero, Act.put, List.setIfInBounds_toArray, List.set_cons_zero, List.set_cons_succ]
      refine wpT_take (i := 3) (v := ?_) rfl (by kernel_rfl) (by kernel_rfl) (by kernel_rfl) (by kernel_rfl) (fun _ _ _ h => h) (Or.inl ⟨by rfl, ?_⟩) HSd.out ?_
      rotate_left
      · (intro wq hSw; obtain ⟨q0, q1, q2, q3, q4, q5, q6, q7, q8, q9, q10, q11⟩ := hSw; go_simp; all_goals (with_reducible rfl))
      simp only [List.getElem_toArray, List.getElem_cons_succ, List.getElem_cons_zero, Act.put, List.setIfInBounds_toArray, List.set_cons_zero, List.set_cons_succ]
      refine wpT_take (i := 4) (v := ?_) rfl (by kernel_rfl) (by kernel_rfl) (by kernel_rfl) (by kernel_rfl) (fun _ _ _ h => h) (Or.inl ⟨by rfl, ?_⟩) HSd.out ?_
      rotate_left
      · (intro wq hSw; obtain ⟨q0, q1, q2, q3, q4, q5, q6, q7, q8, q9, q10, q11⟩ := hSw; go_simp; all_goals (with_reducible rfl))
      simp only [List.getElem_toArray, List.getElem_cons_succ, List.getElem_cons_zero, Act.put, List.setIfInBounds_toArray, List.set_cons_zero, List.set_cons_succ]
      refine wpT_take (i := 5) (v := ?_) rfl (by kernel_rfl) (by kernel_rfl) (by kernel_rfl) (by kernel_rfl) (fun _ _ _ h => h) (Or.inl ⟨by rfl, ?_⟩) HSd.out ?_
      rotate_left
      · (intro wq hSw; obtain ⟨q0, q1, q2, q3, q4, q5, q6, q7, q8, q9, q10, q11⟩ := hSw; go_simp; all_goals (with_reducible rfl))
      simp only [List.getElem_toArray, List.getElem_cons_succ, List.getElem_cons_zero, Act.put, List.setIfInBounds_toArray, List.set_cons_zero, List.set_cons_succ]
      refine wpT_take (i := 6) (v := ?_) rfl (by kernel_rfl) (by kernel_rfl) (by kernel_rfl) (by kernel_rfl) (fun _ _ _ h => h) (Or.inl ⟨by rfl, ?_⟩) HSd.out ?_
      rotate_left
      · (intro wq hSw; obtain ⟨q0, q1, q2, q3, q4, q5, q6, q7, q8, q9, q10, q11⟩ := hSw; go_simp; all_goals (with_reducible rfl))
      simp only [List.getElem_toArray, List.getElem_cons_succ, List.getElem_cons_zero, Act.put, List.setIfInBounds_toArray, List.set_cons_zero, List.set_cons_succ]
      refine wpT_take (i := 7) (v := ?_) rfl (by kernel_rfl) (by kernel_rfl) (by kernel_rfl) (by kernel_rfl) (fun _ _ _ h => h) (Or.inl ⟨by rfl, ?_⟩) HSd.out ?_
      rotate_left
      · (intro wq hSw; obtain ⟨q0, q1, q2, q3, q4, q5, q6, q7, q8, q9, q10, q11⟩ := hSw; go_simp; all_goals (with_reducible rfl))
      simp only [List.getElem_toArray, List.getElem_cons_succ, List.getElem_cons_zero, Act.put, List.setIfInBounds_toArray, List.set_cons_zero, List.set_cons_succ]
      refine wpT_take (i := 8) (v := ?_) rfl (by kernel_rfl) (by kernel_rfl) (by kernel_rfl) (by kernel_rfl) (fun _ _ _ h => h) (Or.inl ⟨by rfl, ?_⟩) HSd.out ?_
      rotate_left
      · (intro wq hSw; obtain ⟨q0, q1, q2, q3, q4, q5, q6, q7, q8, q9, q10, q11⟩ := hSw; go_simp; all_goals (with_reducible rfl))
      simp only [List.getElem_toArray, List.getElem_cons_succ, List.getElem_cons_zero, Act.put, List.setIfInBounds_toArray, List.set_cons_zero, List.set_cons_succ]
      refine wpT_one (i := 9) rfl (by kernel_rfl) fun K hK => ?_
      go_simp
      refine (ih c s _ _ x _ hcp (fun b h => by have := hB b h; show b < wr.heap.size; omega) ((tyD_of HL'.out HK'.out).keep (w' := wr.drew) (fun _ _ _ => rfl) (fun b h _ => h)) hcg (HS.out.keep (w' := wr.drew) (Same.below (hb.drew)) (fun b h _ => h)) hgs).mono ?_
      rintro e w1 ⟨r, rfl, hr, hb1⟩
      obtain ⟨cs, hcs⟩ : ∃ y, sub x s c = y := ⟨_, rfl⟩
      rw [hcs] at hr
      obtain ⟨lr, kr, rfl, hr1, hr2⟩ := hr
      have HR1 := Lib.hid hr1; have HR2 := Lib.hid hr2
      obtain ⟨Ar, pr, rfl, -, -⟩ := hr1
      obtain ⟨Br, qr, rfl, -, -⟩ := hr2
      have hb1' : Below wr.heap.size wr w1 := chain ((Below.refl _ _).drew) hb1
      have hbB1 : Below (w.heap.size + 1 + 1 + 1 + 1) wr w1 := hb1'.mono hwr
      have hs1 := hb1'.size
      refine hK.out _ _ (fun _ => HSB.out w1 hbB1) ?_
      clear hK K
      try simp only [List.getElem_toArray, List.getElem_cons_succ, List.getElem_cons_zero, Act.put, List.setIfInBounds_toArray, List.set_cons_zero, List.set_cons_succ]
      refine wpT_one (i := 10) rfl (by kernel_rfl) fun K hK => ?_
      go_simp
      have hbA := hbB1.alloc (by omega) (.cells #[.int .i64 cs.kind, .int .i64 cs.sort, .string ⟨cs.name.toArray⟩, .slice Ar cs.labels.length pr, .slice Br cs.kids.length qr] 51)
      refine hK.out _ _ (fun _ => HSB.out _ hbA) ?_
      clear hK K
      try simp only [List.getElem_toArray, List.getElem_cons_succ, List.getElem_cons_zero, Act.put, List.setIfInBounds_toArray, List.set_cons_zero, List.set_cons_succ]
      refine wpT_one (i := 11) rfl (by kernel_rfl) fun K hK => ?_
      refine step_app rt_types rfl (.tmp 39) (.tmp 48) rfl (w.heap.size + 1 + 1 + 1 + 1) _ k xs rfl ((own_keep hown hb1' (Nat.le_refl _)).alloc _) ⟨w1.heap.size, 0, none⟩ 1 1 [.int .i64 cs.kind, .int .i64 cs.sort, .string ⟨cs.name.toArray⟩, .slice Ar cs.labels.length pr, .slice Br cs.kids.length qr] rfl rfl (five_new _ _ _ _ _ _ _) (by simp [Value.oneCell']) (by unfold maxLen; omega) (by omega) (by rw [World.size_alloc]; omega) (fun v' w3 k1 k2 k3 k4 => ?_)
      obtain ⟨Aw, capw, rfl⟩ := own_form k1
      have hb3 := hbA.trans k4
      refine hK.out _ _ (fun _ => HSB.out _ hb3) ?_
      clear hK K
      try simp only [List.getElem_toArray, List.getElem_cons_succ, List.getElem_cons_zero, Act.put, List.setIfInBounds_toArray, List.set_cons_zero, List.set_cons_succ]
      refine wpT_one (i := 12) rfl (by kernel_rfl) fun K hK => ?_
      go_simp
      refine hK.out _ _ (fun h => absurd h (by decide)) ?_
      clear hK K
      try simp only [List.getElem_toArray, List.getElem_cons_succ, List.getElem_cons_zero, Act.put, List.setIfInBounds_toArray, List.set_cons_zero, List.set_cons_succ]
      refine wpT_one (i := 13) rfl (by kernel_rfl) fun K hK => ?_
      have hOB3 := hOB.keep hb3 (by omega)
      obtain ⟨z0, z1, z2, z3, z4, z5, z6⟩ := id hOB3
      go_simp
      refine hK.out _ _ (fun h => absurd h (by decide)) ?_
      clear hK K
      try simp only [List.getElem_toArray, List.getElem_cons_succ, List.getElem_cons_zero, Act.put, List.setIfInBounds_toArray, List.set_cons_zero, List.set_cons_succ]
      refine wpT_done (by kernel_rfl) ?_
      have hbox : (w3.setCell ⟨w.heap.size + 1 + 1 + 1, 4, none⟩ (.slice Aw (k + 1) capw)).cell? ⟨w.heap.size, 4, none⟩ = some (.slice (some ⟨b, off, none⟩) L cap) := by
        rw [World.cell?_setCell_far w3 _ _ _ (by show _ ≠ _; simp only []; omega)]
        exact (HSB.out w3 hb3).1
      have hSB4 := (VBox.keep ⟨s0, s1, s2, s3, s4, s5, s6⟩ hb3 (by omega)).far (p := ⟨w.heap.size + 1 + 1 + 1, 4, none⟩) (by show _ ≠ _; simp only []; omega) (.slice Aw (k + 1) capw)
      have hRB4 := (hRB.keep hb3 (by omega)).far (p := ⟨w.heap.size + 1 + 1 + 1, 4, none⟩) (by show _ ≠ _; simp only []; omega) (.slice Aw (k + 1) capw)
      have hOB4 := hOB3.set4 (.slice Aw (k + 1) capw)
      have hown4 := own_set k1 (p := ⟨w.heap.size + 1 + 1 + 1, 4, none⟩) (by show _ < _; simp only []; omega) (.slice Aw (k + 1) capw)
      have hcells3 := Cells5D.pushed hown (fun b h => by have := hB b h; omega) hwr hcells hb1' (.cons cs _ _ [] [] HR1.out HR2.out .nil) ((Below.refl _ _).alloc (Nat.le_refl _) _) k2 k3
      have hcells4 := hcells3.keep (D' := fun b => Out B0 (w.heap.size + 1 + 1 + 1 + 1) b ∧ some b ≠ (Value.slice Aw (k + 1) capw).ownBlock) (Same.set (p := ⟨w.heap.size + 1 + 1 + 1, 4, none⟩) (u := .slice Aw (k + 1) capw) (fun h => by rcases h.1 with h | h; (have := hB _ h; simp only [] at this; omega); (simp only [] at h; omega))) (fun b h _ => h)
      have he : subs x s (ks.take k) ++ [cs] = subs x s (ks.take (k + 1)) := by rw [subs_take HC.out, hcs]
      rw [he] at hcells4
      have hb4 : Below w.heap.size w (w3.setCell ⟨w.heap.size + 1 + 1 + 1, 4, none⟩ (.slice Aw (k + 1) capw)) := (hb.trans (hb3.mono (by omega))).setCell (by show _ ≤ _; simp only []; omega) _
      generalize w3.setCell ⟨w.heap.size + 1 + 1 + 1, 4, none⟩ (.slice Aw (k + 1) capw) = w4 at hbox hSB4 hRB4 hOB4 hown4 hcells4 hb4 ⊢
      go_wp2_with fail
      go_roundw
      case rel => exact ⟨k + 1, _, _, by omega, by go_num, hbox, hSB4, hRB4, hOB4, hown4, hcells4, hb4⟩
      case measure => simp [intOf]; omega
    · have hk' : k = L := by omega
      subst hk'
      clear hlt
      have htk : ks.take k = ks := List.take_of_length_le (by rw [HL.out]; exact Nat.le_refl _)
      rw [htk] at hcells
      obtain ⟨Av, capv, rfl⟩ := own_form hown
      have hfin : TysD (Out B0 (w.heap.size + 1 + 1 + 1 + 1)) wr (.slice Av k capv) (subs x s ks) := by
        have hl : (subs x s ks).length = k := by rw [subs_len, HL.out]
        exact own_tysD (ts := subs x s ks) (by rw [hl]; exact hown) (hcells.keep (fun _ _ _ => rfl) (fun b h _ => h.1)) (fun b h => Or.inr h)
      have hlab : StrsD (Out B0 (w.heap.size + 1 + 1 + 1 + 1)) wr (.slice A0 L0 p0) t.labels := HV.out.keep (Same.below hb) (fun b h _ => Or.inl h)
      obtain ⟨o0, o1, o2, o3, o4, o5, o6⟩ := hOB
      obtain ⟨r0, r1, r2, r3, r4, r5, r6⟩ := hRB
      have HF := Lib.hid hfin; have HLb := Lib.hid hlab
      simp only [Ty.kind, Ty.sort, Ty.name] at r0 r1 r2
      clear hfin hlab hcells hown hSB
      go_wp2_with fail
      have hR := VBox.fill (⟨r0, r1, r2, r3, r4, r5, r6⟩ : VBox wr (w.heap.size + 1 + 1) (.mk 0 0 [] [] []) (.slice none 0 0) (.slice none 0 0)) t (.slice A0 L0 p0) (.slice Av k capv)
      have hsame := Same.fill (D := Out B0 (w.heap.size + 1 + 1 + 1 + 1)) (w := wr) (b := w.heap.size + 1 + 1) (by rintro (h | h); (have := hB _ h; omega); omega) (.int .i64 t.kind) (.int .i64 t.sort) (.string ⟨t.name.toArray⟩) (.slice A0 L0 p0) (.slice Av k capv)
      have hbel := below_fill hb (b := w.heap.size + 1 + 1) (by omega) (.int .i64 t.kind) (.int .i64 t.sort) (.string ⟨t.name.toArray⟩) (.slice A0 L0 p0) (.slice Av k capv)
      have hf2 := HF.out.keep (D' := Out B0 w.heap.size) hsame (fun b h _ => by rcases h with h | h; exact Or.inl h; exact Or.inr (by omega))
      have hl2 := HLb.out.keep (D' := Out B0 w.heap.size) hsame (fun b h _ => by rcases h with h | h; exact Or.inl h; exact Or.inr (by omega))
      generalize (((((wr.setCell ⟨w.heap.size + 1 + 1, 0, none⟩ (.int .i64 t.kind)).setCell ⟨w.heap.size + 1 + 1, 1, none⟩ (.int .i64 t.sort)).setCell ⟨w.heap.size + 1 + 1, 2, none⟩ (.string ⟨t.name.toArray⟩)).setCell ⟨w.heap.size + 1 + 1, 3, none⟩ (.slice A0 L0 p0)).setCell ⟨w.heap.size + 1 + 1, 4, none⟩ (.slice Av k capv)) = w5 at hR hbel hf2 hl2 ⊢
      obtain ⟨d0, d1, d2, d3, d4, d5, d6⟩ := hR
      refine bodyPost_ret (v := .agg #[.int .i64 t.kind, .int .i64 t.sort, .string ⟨t.name.toArray⟩, .slice A0 L0 p0, .slice Av k capv]) (by simp [results, Tryd.results114, go_sem, d0, d1, d2, d3, d4]) rfl ?_
      exact ⟨_, rfl, ⟨_, _, rfl, hl2, hf2⟩, hbel⟩

set_option maxHeartbeats 2000000 in
theorem inPlace_r (m : Nat) (B0 : Blocks) (ih : ∀ (t s : Ty) (v vs : Value) (x : Str) (w : World), parts t ≤ m → (∀ b, B0 b → b < w.heap.size) → TyD B0 w v t → Good t → TyD B0 w vs s → Good s → PutSays 114 B0 t s v vs x w)
    (t s : Ty) (v vs : Value) (x : Str) (w : World) (hm : parts t ≤ m + 1) (hB : ∀ b, B0 b → b < w.heap.size) (hv : TyD B0 w v t) (hg : Good t) (hvs : TyD B0 w vs s) (hgs : Good s) (hans : sub x s t = .mk t.kind t.sort t.name t.labels (subs x s t.kids)) (h9 : (t.kind == 9) = false) (h8 : (t.kind == 8) = true) (hn : (t.name == x) = false) :
    PutSays 114 B0 t s v vs x w := by
  unfold PutSays
  rw [hans]
  clear hans
  obtain ⟨lv, kv, rfl, h1, h2⟩ := hv
  have HV := Lib.hid h1
  have HK := Lib.hid h2
  obtain ⟨A0, p0, rfl, -, -⟩ := h1
  obtain ⟨A, cap, rfl, -, -⟩ := h2
  have HS := Lib.hid hvs
  obtain ⟨lv', kv', rfl, h3, h4⟩ := hvs
  obtain ⟨A0', p0', rfl, -, -⟩ := h3
  obtain ⟨A', cap', rfl, -, -⟩ := h4
  have hkl := hg.small.2.2.2
  obtain ⟨ks, hks⟩ : ∃ x, t.kids = x := ⟨_, rfl⟩
  have HG : Hid (∀ c ∈ ks, Good c) := by have := hg.kid; rw [hks] at this; exact this
  have HP : Hid (1 + partss ks ≤ m + 1) := by cases t; subst hks; exact hm
  have HKs := Lib.hid hks
  rw [hks] at HK hkl ⊢
  obtain ⟨L, hL⟩ : ∃ x, ks.length = x := ⟨_, rfl⟩
  have HL := Lib.hid hL
  rw [hL] at HK hkl ⊢
  obtain ⟨L0, hL0⟩ : ∃ x, t.labels.length = x := ⟨_, rfl⟩
  rw [hL0] at HV ⊢
  clear hL hm hL0 hks
  go_enter Tryd.func114, Tryd.ntmps114
  go_wp2_with fail
  go_loopw [8] (fun i wr => ∃ (k : Nat) (rv : Value) (xs : List Value), k ≤ L ∧ i = .int .i64 k ∧ wr.cell? ⟨w.heap.size, 4, none⟩ = some (.slice A L cap) ∧ VBox wr (w.heap.size + 1) s (.slice A0' s.labels.length p0') (.slice A' s.kids.length cap') ∧ VBox wr (w.heap.size + 1 + 1) (.mk 0 0 [] [] []) (.slice none 0 0) (.slice none 0 0) ∧ VBox wr (w.heap.size + 1 + 1 + 1) t (.slice A0 L0 p0) rv ∧
    wr.ownsRow (w.heap.size + 1 + 1 + 1 + 1) 51 5 rv k xs ∧ Cells5D (fun b => Out B0 (w.heap.size + 1 + 1 + 1 + 1) b ∧ some b ≠ rv.ownBlock) wr xs (subs x s (ks.take k)) ∧ Below w.heap.size w wr) (fun i _ => L - (intOf i).toNat)
  case atStart =>
    refine ⟨0, .slice none 0 0, [], by omega, rfl, by simp [go_sem], ⟨by simp [go_sem], by simp [go_sem], by simp [go_sem], by simp [go_sem], by simp [go_sem], fun j => by simp [go_sem], by simp⟩, ⟨by simp [go_sem]; rfl, by simp [go_sem]; rfl, by simp [go_sem]; rfl, by simp [go_sem], by simp [go_sem], fun j => by simp [go_sem], by simp⟩, ⟨by simp [go_sem], by simp [go_sem], by simp [go_sem], by simp [go_sem], by simp [go_sem], fun j => by simp [go_sem], by simp⟩, World.ownsRow_nil _ _ _ _, .nil, by go_grown⟩
  case round =>
    obtain ⟨k, rv, xs, hk, rfl, hT, hSB, hRB, hOB, hown, hcells, hb⟩ := hrel
    have hwr : w.heap.size + 1 + 1 + 1 + 1 ≤ wr.heap.size := hOB.lt
    by_cases hlt : k < L
    · obtain ⟨c, hc⟩ : ∃ x, ks[k]? = some x := ⟨_, List.getElem?_eq_getElem (by rw [HL.out]; exact hlt)⟩
      have HC := Lib.hid hc
      have hkid := kid_atD (HK.out.keep (D' := B0) (Same.below hb) (fun b h _ => h)) hc
      obtain ⟨-, -, b, off, A1, n1, p1, A2, n2, p2, rfl, hbB, c0, c1, c2, c3, c4, hl', hk'⟩ := hkid
      have HL' := Lib.hid hl'; have HK' := Lib.hid hk'; clear hl' hk'
      have hcp : parts c ≤ m := by have h1 := parts_at (mem_of_at HC.out); have h2 := HP.out; omega
      have hcg : Good c := HG.out c (mem_of_at HC.out)
      have hbB' : b < w.heap.size + 1 + 1 + 1 + 1 := by have := hB b hbB; omega
      obtain ⟨Av, capv, rfl⟩ := own_form hown
      obtain ⟨s0, s1, s2, s3, s4, s5, s6⟩ := hSB
      obtain ⟨o0, o1, o2, o3, o4, o5, o6⟩ := id hOB
      have hS : ∀ w' : World, Below (w.heap.size + 1 + 1 + 1 + 1) wr w' → (fun w' : World => w'.cell? ⟨w.heap.size, 4, none⟩ = some (.slice (some ⟨b, off, none⟩) L cap) ∧ w'.cell? ⟨w.heap.size + 1 + 1 + 1, 4, none⟩ = some (.slice Av k capv) ∧ w'.cell? ⟨b, off + k * 5, none⟩ = some (.int .i64 c.kind) ∧ w'.cell? ⟨b, off + k * 5 + 1, none⟩ = some (.int .i64 c.sort) ∧ w'.cell? ⟨b, off + k * 5 + 2, none⟩ = some (.string ⟨c.name.toArray⟩) ∧ w'.cell? ⟨b, off + k * 5 + 3, none⟩ = some (.slice A1 n1 p1) ∧ w'.cell? ⟨b, off + k * 5 + 4, none⟩ = some (.slice A2 n2 p2) ∧ w'.cell? ⟨w.heap.size + 1, 0, none⟩ = some (.int .i64 s.kind) ∧ w'.cell? ⟨w.heap.size + 1, 1, none⟩ = some (.int .i64 s.sort) ∧ w'.cell? ⟨w.heap.size + 1, 2, none⟩ = some (.string ⟨s.name.toArray⟩) ∧ w'.cell? ⟨w.heap.size + 1, 3, none⟩ = some (.slice A0' s.labels.length p0') ∧ w'.cell? ⟨w.heap.size + 1, 4, none⟩ = some (.slice A' s.kids.length cap')) w' := fun w' h => ⟨(h.cell (p := ⟨w.heap.size, 4, none⟩) (by first | exact hbB' | (show _ < _; simp only []; omega) | (dsimp only; omega))).trans hT, (h.cell (p := ⟨w.heap.size + 1 + 1 + 1, 4, none⟩) (by first | exact hbB' | (show _ < _; simp only []; omega) | (dsimp only; omega))).trans o4, (h.cell (p := ⟨b, off + k * 5, none⟩) (by first | exact hbB' | (show _ < _; simp only []; omega) | (dsimp only; omega))).trans c0, (h.cell (p := ⟨b, off + k * 5 + 1, none⟩) (by first | exact hbB' | (show _ < _; simp only []; omega) | (dsimp only; omega))).trans c1, (h.cell (p := ⟨b, off + k * 5 + 2, none⟩) (by first | exact hbB' | (show _ < _; simp only []; omega) | (dsimp only; omega))).trans c2, (h.cell (p := ⟨b, off + k * 5 + 3, none⟩) (by first | exact hbB' | (show _ < _; simp only []; omega) | (dsimp only; omega))).trans c3, (h.cell (p := ⟨b, off + k * 5 + 4, none⟩) (by first | exact hbB' | (show _ < _; simp only []; omega) | (dsimp only; omega))).trans c4, (h.cell (p := ⟨w.heap.size + 1, 0, none⟩) (by first | exact hbB' | (show _ < _; simp only []; omega) | (dsimp only; omega))).trans s0, (h.cell (p := ⟨w.heap.size + 1, 1, none⟩) (by first | exact hbB' | (show _ < _; simp only []; omega) | (dsimp only; omega))).trans s1, (h.cell (p := ⟨w.heap.size + 1, 2, none⟩) (by first | exact hbB' | (show _ < _; simp only []; omega) | (dsimp only; omega))).trans s2, (h.cell (p := ⟨w.heap.size + 1, 3, none⟩) (by first | exact hbB' | (show _ < _; simp only []; omega) | (dsimp only; omega))).trans s3, (h.cell (p := ⟨w.heap.size + 1, 4, none⟩) (by first | exact hbB' | (show _ < _; simp only []; omega) | (dsimp only; omega))).trans s4⟩
      have HSd := Lib.hid (hS wr.drew (Below.refl _ _).drew)
      have HSB := Lib.hid hS; clear hS
      clear hc
      go_wp2_with fail
      refine wp_region_T 12 (fun w' : World => w'.cell? ⟨w.heap.size, 4, none⟩ = some (.slice (some ⟨b, off, none⟩) L cap) ∧ w'.cell? ⟨w.heap.size + 1 + 1 + 1, 4, none⟩ = some (.slice Av k capv) ∧ w'.cell? ⟨b, off + k * 5, none⟩ = some (.int .i64 c.kind) ∧ w'.cell? ⟨b, off + k * 5 + 1, none⟩ = some (.int .i64 c.sort) ∧ w'.cell? ⟨b, off + k * 5 + 2, none⟩ = some (.string ⟨c.name.toArray⟩) ∧ w'.cell? ⟨b, off + k * 5 + 3, none⟩ = some (.slice A1 n1 p1) ∧ w'.cell? ⟨b, off + k * 5 + 4, none⟩ = some (.slice A2 n2 p2) ∧ w'.cell? ⟨w.heap.size + 1, 0, none⟩ = some (.int .i64 s.kind) ∧ w'.cell? ⟨w.heap.size + 1, 1, none⟩ = some (.int .i64 s.sort) ∧ w'.cell? ⟨w.heap.size + 1, 2, none⟩ = some (.string ⟨s.name.toArray⟩) ∧ w'.cell? ⟨w.heap.size + 1, 3, none⟩ = some (.slice A0' s.labels.length p0') ∧ w'.cell? ⟨w.heap.size + 1, 4, none⟩ = some (.slice A' s.kids.length cap')) (by kernel_rfl) ?_
      refine wpT_take (i := 0) (v := ?_) rfl (by kernel_rfl) (by kernel_rfl) (by kernel_rfl) (by kernel_rfl) (fun _ _ _ h => h) (Or.inl ⟨by rfl, ?_⟩) HSd.out ?_
      rotate_left
      · (intro wq hSw; obtain ⟨q0, q1, q2, q3, q4, q5, q6, q7, q8, q9, q10, q11⟩ := hSw; go_simp; all_goals (with_reducible rfl))
      simp only [List.getElem_toArray, List.getElem_cons_succ, List.getElem_cons_zero, Act.put, List.setIfInBounds_toArray, List.set_cons_zero, List.set_cons_succ]
      refine wpT_take (i := 1) (v := ?_) rfl (by kernel_rfl) (by kernel_rfl) (by kernel_rfl) (by kernel_rfl) (fun _ _ _ h => h) (Or.inl ⟨by rfl, ?_⟩) HSd.out ?_
      rotate_left
      · (intro wq hSw; obtain ⟨q0, q1, q2, q3, q4, q5, q6, q7, q8, q9, q10, q11⟩ := hSw; go_simp; all_goals (with_reducible rfl))
      simp only [List.getElem_toArray, List.getElem_cons_succ, List.getElem_cons_zero, Act.put, List.setIfInBounds_toArray, List.set_cons_zero, List.set_cons_succ]
      refine wpT_take (i := 2) (v := ?_) rfl (by kernel_rfl) (by kernel_rfl) (by kernel_rfl) (by kernel_rfl) (fun _ _ _ h => h) (Or.inl ⟨by rfl, ?_⟩) HSd.out ?_
      rotate_left
      · (intro wq hSw; obtain ⟨q0, q1, q2, q3, q4, q5, q6, q7, q8, q9, q10, q11⟩ := hSw; go_simp; all_goals (with_reducible rfl))
      simp only [List.getElem_toArray, List.getElem_cons_succ, List.getElem_cons_zero, Act.put, List.setIfInBounds_toArray, List.set_cons_zero, List.set_cons_succ]
      refine wpT_take (i := 3) (v := ?_) rfl (by kernel_rfl) (by kernel_rfl) (by kernel_rfl) (by kernel_rfl) (fun _ _ _ h => h) (Or.inl ⟨by rfl, ?_⟩) HSd.out ?_
      rotate_left
      · (intro wq hSw; obtain ⟨q0, q1, q2, q3, q4, q5, q6, q7, q8, q9, q10, q11⟩ := hSw; go_simp; all_goals (with_reducible rfl))
      simp only [List.getElem_toArray, List.getElem_cons_succ, List.getElem_cons_zero, Act.put, List.setIfInBounds_toArray, List.set_cons_zero, List.set_cons_succ]
      refine wpT_take (i := 4) (v := ?_) rfl (by kernel_rfl) (by kernel_rfl) (by kernel_rfl) (by kernel_rfl) (fun _ _ _ h => h) (Or.inl ⟨by rfl, ?_⟩) HSd.out ?_
      rotate_left
      · (intro wq hSw; obtain ⟨q0, q1, q2, q3, q4, q5, q6, q7, q8, q9, q10, q11⟩ := hSw; go_simp; all_goals (with_reducible rfl))
      simp only [List.getElem_toArray, List.getElem_cons_succ, List.getElem_cons_zero, Act.put, List.setIfInBounds_toArray, List.set_cons_zero, List.set_cons_succ]
      refine wpT_take (i := 5) (v := ?_) rfl (by kernel_rfl) (by kernel_rfl) (by kernel_rfl) (by kernel_rfl) (fun _ _ _ h => h) (Or.inl ⟨by rfl, ?_⟩) HSd.out ?_
      rotate_left
      · (intro wq hSw; obtain ⟨q0, q1, q2, q3, q4, q5, q6, q7, q8, q9, q10, q11⟩ := hSw; go_simp; all_goals (with_reducible rfl))
      simp only [List.getElem_toArray, List.getElem_cons_succ, List.getElem_cons_zero, Act.put, List.setIfInBounds_toArray, List.set_cons_zero, List.set_cons_succ]
      refine wpT_take (i := 6) (v := ?_) rfl (by kernel_rfl) (by kernel_rfl) (by kernel_rfl) (by kernel_rfl) (fun _ _ _ h => h) (Or.inl ⟨by rfl, ?_⟩) HSd.out ?_
      rotate_left
      · (intro wq hSw; obtain ⟨q0, q1, q2, q3, q4, q5, q6, q7, q8, q9, q10, q11⟩ := hSw; go_simp; all_goals (with_reducible rfl))
      simp only [List.getElem_toArray, List.getElem_cons_succ, List.getElem_cons_zero, Act.put, List.setIfInBounds_toArray, List.set_cons_zero, List.set_cons_succ]
      refine wpT_take (i := 7) (v := ?_) rfl (by kernel_rfl) (by kernel_rfl) (by kernel_rfl) (by kernel_rfl) (fun _ _ _ h => h) (Or.inl ⟨by rfl, ?_⟩) HSd.out ?_
      rotate_left
      · (intro wq hSw; obtain ⟨q0, q1, q2, q3, q4, q5, q6, q7, q8, q9, q10, q11⟩ := hSw; go_simp; all_goals (with_reducible rfl))
      simp only [List.getElem_toArray, List.getElem_cons_succ, List.getElem_cons_zero, Act.put, List.setIfInBounds_toArray, List.set_cons_zero, List.set_cons_succ]
      refine wpT_take (i := 8) (v := ?_) rfl (by kernel_rfl) (by kernel_rfl) (by kernel_rfl) (by kernel_rfl) (fun _ _ _ h => h) (Or.inl ⟨by rfl, ?_⟩) HSd.out ?_
      rotate_left
      · (intro wq hSw; obtain ⟨q0, q1, q2, q3, q4, q5, q6, q7, q8, q9, q10, q11⟩ := hSw; go_simp; all_goals (with_reducible rfl))
      simp only [List.getElem_toArray, List.getElem_cons_succ, List.getElem_cons_zero, Act.put, List.setIfInBounds_toArray, List.set_cons_zero, List.set_cons_succ]
      refine wpT_one (i := 9) rfl (by kernel_rfl) fun K hK => ?_
      go_simp
      refine (ih c s _ _ x _ hcp (fun b h => by have := hB b h; show b < wr.heap.size; omega) ((tyD_of HL'.out HK'.out).keep (w' := wr.drew) (fun _ _ _ => rfl) (fun b h _ => h)) hcg (HS.out.keep (w' := wr.drew) (Same.below (hb.drew)) (fun b h _ => h)) hgs).mono ?_
      rintro e w1 ⟨r, rfl, hr, hb1⟩
      obtain ⟨cs, hcs⟩ : ∃ y, sub x s c = y := ⟨_, rfl⟩
      rw [hcs] at hr
      obtain ⟨lr, kr, rfl, hr1, hr2⟩ := hr
      have HR1 := Lib.hid hr1; have HR2 := Lib.hid hr2
      obtain ⟨Ar, pr, rfl, -, -⟩ := hr1
      obtain ⟨Br, qr, rfl, -, -⟩ := hr2
      have hb1' : Below wr.heap.size wr w1 := chain ((Below.refl _ _).drew) hb1
      have hbB1 : Below (w.heap.size + 1 + 1 + 1 + 1) wr w1 := hb1'.mono hwr
      have hs1 := hb1'.size
      refine hK.out _ _ (fun _ => HSB.out w1 hbB1) ?_
      clear hK K
      try simp only [List.getElem_toArray, List.getElem_cons_succ, List.getElem_cons_zero, Act.put, List.setIfInBounds_toArray, List.set_cons_zero, List.set_cons_succ]
      refine wpT_one (i := 10) rfl (by kernel_rfl) fun K hK => ?_
      go_simp
      have hbA := hbB1.alloc (by omega) (.cells #[.int .i64 cs.kind, .int .i64 cs.sort, .string ⟨cs.name.toArray⟩, .slice Ar cs.labels.length pr, .slice Br cs.kids.length qr] 51)
      refine hK.out _ _ (fun _ => HSB.out _ hbA) ?_
      clear hK K
      try simp only [List.getElem_toArray, List.getElem_cons_succ, List.getElem_cons_zero, Act.put, List.setIfInBounds_toArray, List.set_cons_zero, List.set_cons_succ]
      refine wpT_one (i := 11) rfl (by kernel_rfl) fun K hK => ?_
      refine step_app rt_types rfl (.tmp 39) (.tmp 48) rfl (w.heap.size + 1 + 1 + 1 + 1) _ k xs rfl ((own_keep hown hb1' (Nat.le_refl _)).alloc _) ⟨w1.heap.size, 0, none⟩ 1 1 [.int .i64 cs.kind, .int .i64 cs.sort, .string ⟨cs.name.toArray⟩, .slice Ar cs.labels.length pr, .slice Br cs.kids.length qr] rfl rfl (five_new _ _ _ _ _ _ _) (by simp [Value.oneCell']) (by unfold maxLen; omega) (by omega) (by rw [World.size_alloc]; omega) (fun v' w3 k1 k2 k3 k4 => ?_)
      obtain ⟨Aw, capw, rfl⟩ := own_form k1
      have hb3 := hbA.trans k4
      refine hK.out _ _ (fun _ => HSB.out _ hb3) ?_
      clear hK K
      try simp only [List.getElem_toArray, List.getElem_cons_succ, List.getElem_cons_zero, Act.put, List.setIfInBounds_toArray, List.set_cons_zero, List.set_cons_succ]
      refine wpT_one (i := 12) rfl (by kernel_rfl) fun K hK => ?_
      go_simp
      refine hK.out _ _ (fun h => absurd h (by decide)) ?_
      clear hK K
      try simp only [List.getElem_toArray, List.getElem_cons_succ, List.getElem_cons_zero, Act.put, List.setIfInBounds_toArray, List.set_cons_zero, List.set_cons_succ]
      refine wpT_one (i := 13) rfl (by kernel_rfl) fun K hK => ?_
      have hOB3 := hOB.keep hb3 (by omega)
      obtain ⟨z0, z1, z2, z3, z4, z5, z6⟩ := id hOB3
      go_simp
      refine hK.out _ _ (fun h => absurd h (by decide)) ?_
      clear hK K
      try simp only [List.getElem_toArray, List.getElem_cons_succ, List.getElem_cons_zero, Act.put, List.setIfInBounds_toArray, List.set_cons_zero, List.set_cons_succ]
      refine wpT_done (by kernel_rfl) ?_
      have hbox : (w3.setCell ⟨w.heap.size + 1 + 1 + 1, 4, none⟩ (.slice Aw (k + 1) capw)).cell? ⟨w.heap.size, 4, none⟩ = some (.slice (some ⟨b, off, none⟩) L cap) := by
        rw [World.cell?_setCell_far w3 _ _ _ (by show _ ≠ _; simp only []; omega)]
        exact (HSB.out w3 hb3).1
      have hSB4 := (VBox.keep ⟨s0, s1, s2, s3, s4, s5, s6⟩ hb3 (by omega)).far (p := ⟨w.heap.size + 1 + 1 + 1, 4, none⟩) (by show _ ≠ _; simp only []; omega) (.slice Aw (k + 1) capw)
      have hRB4 := (hRB.keep hb3 (by omega)).far (p := ⟨w.heap.size + 1 + 1 + 1, 4, none⟩) (by show _ ≠ _; simp only []; omega) (.slice Aw (k + 1) capw)
      have hOB4 := hOB3.set4 (.slice Aw (k + 1) capw)
      have hown4 := own_set k1 (p := ⟨w.heap.size + 1 + 1 + 1, 4, none⟩) (by show _ < _; simp only []; omega) (.slice Aw (k + 1) capw)
      have hcells3 := Cells5D.pushed hown (fun b h => by have := hB b h; omega) hwr hcells hb1' (.cons cs _ _ [] [] HR1.out HR2.out .nil) ((Below.refl _ _).alloc (Nat.le_refl _) _) k2 k3
      have hcells4 := hcells3.keep (D' := fun b => Out B0 (w.heap.size + 1 + 1 + 1 + 1) b ∧ some b ≠ (Value.slice Aw (k + 1) capw).ownBlock) (Same.set (p := ⟨w.heap.size + 1 + 1 + 1, 4, none⟩) (u := .slice Aw (k + 1) capw) (fun h => by rcases h.1 with h | h; (have := hB _ h; simp only [] at this; omega); (simp only [] at h; omega))) (fun b h _ => h)
      have he : subs x s (ks.take k) ++ [cs] = subs x s (ks.take (k + 1)) := by rw [subs_take HC.out, hcs]
      rw [he] at hcells4
      have hb4 : Below w.heap.size w (w3.setCell ⟨w.heap.size + 1 + 1 + 1, 4, none⟩ (.slice Aw (k + 1) capw)) := (hb.trans (hb3.mono (by omega))).setCell (by show _ ≤ _; simp only []; omega) _
      generalize w3.setCell ⟨w.heap.size + 1 + 1 + 1, 4, none⟩ (.slice Aw (k + 1) capw) = w4 at hbox hSB4 hRB4 hOB4 hown4 hcells4 hb4 ⊢
      go_wp2_with fail
      go_roundw
      case rel => exact ⟨k + 1, _, _, by omega, by go_num, hbox, hSB4, hRB4, hOB4, hown4, hcells4, hb4⟩
      case measure => simp [intOf]; omega
    · have hk' : k = L := by omega
      subst hk'
      clear hlt
      have htk : ks.take k = ks := List.take_of_length_le (by rw [HL.out]; exact Nat.le_refl _)
      rw [htk] at hcells
      obtain ⟨Av, capv, rfl⟩ := own_form hown
      have hfin : TysD (Out B0 (w.heap.size + 1 + 1 + 1 + 1)) wr (.slice Av k capv) (subs x s ks) := by
        have hl : (subs x s ks).length = k := by rw [subs_len, HL.out]
        exact own_tysD (ts := subs x s ks) (by rw [hl]; exact hown) (hcells.keep (fun _ _ _ => rfl) (fun b h _ => h.1)) (fun b h => Or.inr h)
      have hlab : StrsD (Out B0 (w.heap.size + 1 + 1 + 1 + 1)) wr (.slice A0 L0 p0) t.labels := HV.out.keep (Same.below hb) (fun b h _ => Or.inl h)
      obtain ⟨o0, o1, o2, o3, o4, o5, o6⟩ := hOB
      obtain ⟨r0, r1, r2, r3, r4, r5, r6⟩ := hRB
      have HF := Lib.hid hfin; have HLb := Lib.hid hlab
      simp only [Ty.kind, Ty.sort, Ty.name] at r0 r1 r2
      clear hfin hlab hcells hown hSB
      go_wp2_with fail
      have hR := VBox.fill (⟨r0, r1, r2, r3, r4, r5, r6⟩ : VBox wr (w.heap.size + 1 + 1) (.mk 0 0 [] [] []) (.slice none 0 0) (.slice none 0 0)) t (.slice A0 L0 p0) (.slice Av k capv)
      have hsame := Same.fill (D := Out B0 (w.heap.size + 1 + 1 + 1 + 1)) (w := wr) (b := w.heap.size + 1 + 1) (by rintro (h | h); (have := hB _ h; omega); omega) (.int .i64 t.kind) (.int .i64 t.sort) (.string ⟨t.name.toArray⟩) (.slice A0 L0 p0) (.slice Av k capv)
      have hbel := below_fill hb (b := w.heap.size + 1 + 1) (by omega) (.int .i64 t.kind) (.int .i64 t.sort) (.string ⟨t.name.toArray⟩) (.slice A0 L0 p0) (.slice Av k capv)
      have hf2 := HF.out.keep (D' := Out B0 w.heap.size) hsame (fun b h _ => by rcases h with h | h; exact Or.inl h; exact Or.inr (by omega))
      have hl2 := HLb.out.keep (D' := Out B0 w.heap.size) hsame (fun b h _ => by rcases h with h | h; exact Or.inl h; exact Or.inr (by omega))
      generalize (((((wr.setCell ⟨w.heap.size + 1 + 1, 0, none⟩ (.int .i64 t.kind)).setCell ⟨w.heap.size + 1 + 1, 1, none⟩ (.int .i64 t.sort)).setCell ⟨w.heap.size + 1 + 1, 2, none⟩ (.string ⟨t.name.toArray⟩)).setCell ⟨w.heap.size + 1 + 1, 3, none⟩ (.slice A0 L0 p0)).setCell ⟨w.heap.size + 1 + 1, 4, none⟩ (.slice Av k capv)) = w5 at hR hbel hf2 hl2 ⊢
      obtain ⟨d0, d1, d2, d3, d4, d5, d6⟩ := hR
      refine bodyPost_ret (v := .agg #[.int .i64 t.kind, .int .i64 t.sort, .string ⟨t.name.toArray⟩, .slice A0 L0 p0, .slice Av k capv]) (by simp [results, Tryd.results114, go_sem, d0, d1, d2, d3, d4]) rfl ?_
      exact ⟨_, rfl, ⟨_, _, rfl, hl2, hf2⟩, hbel⟩

set_option maxHeartbeats 2000000 in
theorem inPlace_e9 (B0 : Blocks) (t s : Ty) (v vs : Value) (x : Str) (w : World) (hB : ∀ b, B0 b → b < w.heap.size) (hv : TyD B0 w v t) (hvs : TyD B0 w vs s) (hans : sub x s t = s) (h9 : (t.kind == 9) = true) (hn : (t.name == x) = true) :
    PutSays 114 B0 t s v vs x w := by
  unfold PutSays
  rw [hans]
  clear hans
  have HZ := Lib.hid hvs
  obtain ⟨lv, kv, rfl, h1, h2⟩ := hv
  obtain ⟨A0, p0, rfl, -, -⟩ := h1
  obtain ⟨A, cap, rfl, -, -⟩ := h2
  obtain ⟨lv', kv', rfl, h3, h4⟩ := hvs
  obtain ⟨A0', p0', rfl, -, -⟩ := h3
  obtain ⟨A', cap', rfl, -, -⟩ := h4
  go_enter Tryd.func114, Tryd.ntmps114
  go_wp2_with fail
  refine bodyPost_ret (v := .agg #[.int .i64 s.kind, .int .i64 s.sort, .string ⟨s.name.toArray⟩, .slice A0' s.labels.length p0', .slice A' s.kids.length cap']) (by simp [results, Tryd.results114, go_sem]) rfl ?_
  exact ⟨_, rfl, HZ.out.keep (Same.below (by go_grown)) (fun b h _ => Or.inl h), by go_grown⟩
set_option maxHeartbeats 2000000 in
theorem inPlace_e8 (B0 : Blocks) (t s : Ty) (v vs : Value) (x : Str) (w : World) (hB : ∀ b, B0 b → b < w.heap.size) (hv : TyD B0 w v t) (hvs : TyD B0 w vs s) (hans : sub x s t = t) (h9 : (t.kind == 9) = false) (h8 : (t.kind == 8) = true) (hn : (t.name == x) = true) :
    PutSays 114 B0 t s v vs x w := by
  unfold PutSays
  rw [hans]
  clear hans
  have HZ := Lib.hid hv
  obtain ⟨lv, kv, rfl, h1, h2⟩ := hv
  obtain ⟨A0, p0, rfl, -, -⟩ := h1
  obtain ⟨A, cap, rfl, -, -⟩ := h2
  obtain ⟨lv', kv', rfl, h3, h4⟩ := hvs
  obtain ⟨A0', p0', rfl, -, -⟩ := h3
  obtain ⟨A', cap', rfl, -, -⟩ := h4
  go_enter Tryd.func114, Tryd.ntmps114
  go_wp2_with fail
  refine bodyPost_ret (v := .agg #[.int .i64 t.kind, .int .i64 t.sort, .string ⟨t.name.toArray⟩, .slice A0 t.labels.length p0, .slice A t.kids.length cap]) (by simp [results, Tryd.results114, go_sem]) rfl ?_
  exact ⟨_, rfl, HZ.out.keep (Same.below (by go_grown)) (fun b h _ => Or.inl h), by go_grown⟩

theorem sub_var {x : Str} {s t : Ty} (h9 : t.kind = 9) (hn : t.name = x) : sub x s t = s := by
  cases t with
  | mk k so n ls ks => simp only [Ty.kind, Ty.name] at h9 hn; simp only [sub]; rw [if_pos ⟨h9, hn⟩]
theorem sub_rec {x : Str} {s t : Ty} (h8 : t.kind = 8) (hn : t.name = x) : sub x s t = t := by
  cases t with
  | mk k so n ls ks => simp only [Ty.kind, Ty.name] at h8 hn; simp only [sub]; rw [if_neg (fun h => by omega), if_pos ⟨h8, hn⟩]
theorem sub_else {x : Str} {s t : Ty} (h : t.kind = 9 ∨ t.kind = 8 → t.name ≠ x) : sub x s t = .mk t.kind t.sort t.name t.labels (subs x s t.kids) := by
  cases t with
  | mk k so n ls ks =>
    simp only [Ty.kind, Ty.name, Ty.sort, Ty.labels, Ty.kids] at h ⊢
    simp only [sub]
    rw [if_neg (fun hc => h (Or.inl hc.1) hc.2), if_neg (fun hc => h (Or.inr hc.1) hc.2)]

theorem inPlace_any (B0 : Blocks) : ∀ (m : Nat) (t s : Ty) (v vs : Value) (x : Str) (w : World), parts t ≤ m → (∀ b, B0 b → b < w.heap.size) → TyD B0 w v t → Good t → TyD B0 w vs s → Good s → PutSays 114 B0 t s v vs x w := by
  intro m
  induction m with
  | zero => intro t s v vs x w h; cases t; simp only [parts] at h; omega
  | succ m ih =>
  intro t s v vs x w hm hB hv hg hvs hgs
  by_cases h9 : t.kind = 9
  · by_cases hn : t.name = x
    · exact inPlace_e9 B0 t s v vs x w hB hv hvs (sub_var h9 hn) (by simp [h9]) (by simp [hn])
    · exact inPlace_v m B0 ih t s v vs x w hm hB hv hg hvs hgs (sub_else fun _ => hn) (by simp [h9]) (by simp [hn]) (by simp [h9])
  · by_cases h8 : t.kind = 8
    · by_cases hn : t.name = x
      · exact inPlace_e8 B0 t s v vs x w hB hv hvs (sub_rec h8 hn) (by simp [h9]) (by simp [h8]) (by simp [hn])
      · exact inPlace_r m B0 ih t s v vs x w hm hB hv hg hvs hgs (sub_else fun _ => hn) (by simp [h9]) (by simp [h8]) (by simp [hn])
    · exact inPlace_c m B0 ih t s v vs x w hm hB hv hg hvs hgs (sub_else fun h => absurd h (by rintro (h | h) <;> contradiction)) (by simp [h9]) (by simp [h8])
end Go.Proofs.YtcacembpegoghaaDoor
