/-
  The reference's talk: the shape of a conversation's part.
-/
import Derived.Test.YtcacembpegoghaaDoorGlO
import Derived.Test.YtcacembpegoghaaDoorHeld
import Derived.Laws.MakeOwn
namespace Go.Proofs.YtcacembpegoghaaDoor
open Go.RowKit Go.Proofs

set_option maxRecDepth 100000
theorem part_val (k s : Int) (n : Str) (ls : List Str) (kids : Nat) (lv : Value) (A' : Option Addr) (cap' : Nat) (w : World) (hn : n.length ≤ 9223372036854775807) (hl : ls.length ≤ 9223372036854775807) (hs : ∀ s ∈ ls, s.length ≤ 9223372036854775807) (hk : kids ≤ 9223372036854775807) (hv : IsStrs w lv ls) :
    Calls Tryd.prog 112 #[.agg #[.int .i64 k, .int .i64 s, .string ⟨n.toArray⟩, lv, .slice A' kids cap']] w fun e w' => e = .returned (.bool (shapeOk k s n ls kids)) ∧ Below w.heap.size w w' := by
  by_cases h : k = 1
  · subst h; exact part_1 s n ls kids lv A' cap' w hn hl hs hk hv
  by_cases h2 : k = 2
  · subst h2; exact part_2 s n ls kids lv A' cap' w hn hl hs hk hv
  by_cases h3 : k = 3
  · subst h3; exact part_3 s n ls kids lv A' cap' w hn hl hs hk hv
  by_cases h4 : k = 4
  · subst h4; exact part_4 s n ls kids lv A' cap' w hn hl hs hk hv
  by_cases h5 : k = 5
  · subst h5; exact part_5 s n ls kids lv A' cap' w hn hl hs hk hv
  by_cases h6 : k = 6
  · subst h6; exact part_6 s n ls kids lv A' cap' w hn hl hs hk hv
  by_cases h7 : k = 7
  · subst h7; exact part_7 s n ls kids lv A' cap' w hn hl hs hk hv
  by_cases h8 : k = 8
  · subst h8; exact part_8 s n ls kids lv A' cap' w hn hl hs hk hv
  by_cases h9 : k = 9
  · subst h9; exact part_9 s n ls kids lv A' cap' w hn hl hs hk hv
  exact part_o k h h2 h3 h4 h5 h6 h7 h8 h9 s n ls kids lv A' cap' w hn hl hs hk hv

set_option maxHeartbeats 8000000 in
theorem talk_val (k : Int) (f o : Str) (s : Int) (n : Str) (ls : List Str) (kids : Nat) (A : Option Addr) (cap : Nat) (A' : Option Addr) (cap' : Nat) (w : World) (hn : n.length ≤ 9223372036854775807) (hl : ls.length ≤ 9223372036854775807) (hs : ∀ s ∈ ls, s.length ≤ 9223372036854775807) (hk : kids ≤ 1000000000000) (hv : IsStrs w (.slice A ls.length cap) ls) :
    Calls Tryd.prog 185 #[.agg #[.int .i64 k, .string ⟨f.toArray⟩, .string ⟨o.toArray⟩, .int .i64 s, .string ⟨n.toArray⟩, .slice A ls.length cap, .slice A' kids cap']] w fun e w' => e = .returned (.bool (gShape k f o s n ls kids)) ∧ Below w.heap.size w w' := by
  have HV := Lib.hid hv; clear hv
  obtain ⟨i0, z0, hi, hz0, hz1, hz2, -⟩ := rt_types.ex
  obtain ⟨M, hM⟩ : ∃ M, M = madeCells z0.cells ((kids : Int).toNat * i0.size) := ⟨_, rfl⟩
  have hmk : ∀ W : World, (Instr.makeSlice 49 (.int .i64 (kids : Int)) (.int .i64 (kids : Int))).run Tryd.prog W = .ok (.slice (some ⟨W.heap.size, 0, none⟩) kids kids) (W.alloc (.cells M 51)) := fun W => by
    have h := run_make (P := Tryd.prog) W 49 51 i0 _ Tryd.underlying49 hi hz0 .i64 .i64 (kids : Int) (kids : Int) (by omega) (by omega) (by rw [hz2]; omega) (by omega)
    rw [← hM] at h
    simpa using h
  clear hM hi hz0 hz1 hz2
  obtain ⟨ANS, hA⟩ : ∃ y, gShape k f o s n ls kids = y := ⟨_, rfl⟩
  have HA := Lib.hid hA; rw [hA]; clear hA
  obtain ⟨R1, hR1⟩ : ∃ x, isRole f = x := ⟨_, rfl⟩
  have HR1 := Lib.hid hR1
  obtain ⟨R2, hR2⟩ : ∃ x, isRole o = x := ⟨_, rfl⟩
  have HR2 := Lib.hid hR2
  have hF1 : R1 = true → (f == []) = false := fun h => by
    have := (isRole_low (hR1.trans h)).1
    simpa using this
  clear hR1 hR2
  obtain ⟨bF, hF⟩ : ∃ x, (f == []) = x := ⟨_, rfl⟩
  obtain ⟨bO, hO⟩ : ∃ x, (o == []) = x := ⟨_, rfl⟩
  obtain ⟨bQ, hQ⟩ : ∃ x, (f == o) = x := ⟨_, rfl⟩
  have six : (R1 = false ∧ bF = true ∧ bO = true) ∨ (R1 = false ∧ bF = true ∧ bO = false) ∨ (R1 = false ∧ bF = false) ∨ (R1 = true ∧ bF = false ∧ R2 = false) ∨ (R1 = true ∧ bF = false ∧ R2 = true ∧ bQ = true) ∨ (R1 = true ∧ bF = false ∧ R2 = true ∧ bQ = false) := by
    rw [hF] at hF1
    cases R1 <;> cases R2 <;> cases bF <;> cases bO <;> cases bQ <;> simp_all
  clear hF1
  have hb0 : Below w.heap.size w (w.alloc (.cells #[.int .i64 k, .string ⟨f.toArray⟩, .string ⟨o.toArray⟩, .int .i64 s, .string ⟨n.toArray⟩, .slice A ls.length cap, .slice A' kids cap'] 42)) := by go_grown
  have XB := new_gval w (.mk k f o s n ls []) (.slice A ls.length cap) (.slice A' kids cap') 42
  simp only [Gl.kind, Gl.frm, Gl.rcv, Gl.sort, Gl.name] at XB
  rcases six with ⟨rfl, rfl, rfl⟩ | ⟨rfl, rfl, rfl⟩ | ⟨rfl, rfl⟩ | ⟨rfl, rfl, rfl⟩ | ⟨rfl, rfl, rfl, rfl⟩ | ⟨rfl, rfl, rfl, rfl⟩
  all_goals
    go_enter Tryd.func185, Tryd.ntmps185
    go_wp2_with (go_at_call 27; go_must ((first | (refine (refIsRole_any f _).mono ?_; rw [HR1.out]; rintro e wn ⟨rfl, hbn⟩) | (refine (refIsRole_any o _).mono ?_; rw [HR2.out]; rintro e wn ⟨rfl, hbn⟩)); replace XB := XB.keep hbn XB.lt; replace hb0 := chain hb0 hbn; clear hbn; have x1 := XB.c1; have x2 := XB.c2; simp only [Gl.kind, Gl.frm, Gl.rcv, Gl.sort, Gl.name] at x1 x2))
    have hS : ∀ w' : World, Below wn.heap.size wn w' → (fun w' : World => w'.cell? ⟨w.heap.size, 0, none⟩ = some (.int .i64 k) ∧ w'.cell? ⟨w.heap.size, 3, none⟩ = some (.int .i64 s) ∧ w'.cell? ⟨w.heap.size, 4, none⟩ = some (.string ⟨n.toArray⟩) ∧ w'.cell? ⟨w.heap.size, 5, none⟩ = some (.slice A ls.length cap) ∧ w'.cell? ⟨w.heap.size, 6, none⟩ = some (.slice A' kids cap')) w' := fun w' h => ⟨cell_keep XB.c0 h, cell_keep XB.c3 h, cell_keep XB.c4 h, cell_keep XB.c5 h, cell_keep XB.c6 h⟩
    have HSd := Lib.hid (hS wn.drew (Below.refl _ _).drew)
    have HSB := Lib.hid hS; clear hS
    have hbox : w.heap.size < wn.heap.size := XB.lt
    clear XB x1 x2
    refine wp_region_T 14 (fun w' : World => w'.cell? ⟨w.heap.size, 0, none⟩ = some (.int .i64 k) ∧ w'.cell? ⟨w.heap.size, 3, none⟩ = some (.int .i64 s) ∧ w'.cell? ⟨w.heap.size, 4, none⟩ = some (.string ⟨n.toArray⟩) ∧ w'.cell? ⟨w.heap.size, 5, none⟩ = some (.slice A ls.length cap) ∧ w'.cell? ⟨w.heap.size, 6, none⟩ = some (.slice A' kids cap')) (by kernel_rfl) ?_
    refine wpT_take (i := 0) (v := ?_) rfl (by kernel_rfl) (by kernel_rfl) (by kernel_rfl) (by kernel_rfl) (fun _ _ _ h => h) (Or.inl ⟨by rfl, ?_⟩) HSd.out ?_
    rotate_left
    · (intro wq hSw; obtain ⟨g0, g3, g4, g5, g6⟩ := hSw; go_simp; all_goals (with_reducible rfl))
    try simp only [List.getElem_toArray, List.getElem_cons_succ, List.getElem_cons_zero, Act.put, List.setIfInBounds_toArray, List.set_cons_zero, List.set_cons_succ]
    refine wpT_take (i := 1) (v := ?_) rfl (by kernel_rfl) (by kernel_rfl) (by kernel_rfl) (by kernel_rfl) (fun _ _ _ h => h) (Or.inl ⟨by rfl, ?_⟩) HSd.out ?_
    rotate_left
    · (intro wq hSw; obtain ⟨g0, g3, g4, g5, g6⟩ := hSw; go_simp; all_goals (with_reducible rfl))
    try simp only [List.getElem_toArray, List.getElem_cons_succ, List.getElem_cons_zero, Act.put, List.setIfInBounds_toArray, List.set_cons_zero, List.set_cons_succ]
    refine wpT_take (i := 2) (v := ?_) rfl (by kernel_rfl) (by kernel_rfl) (by kernel_rfl) (by kernel_rfl) (fun _ _ _ h => h) (Or.inl ⟨by rfl, ?_⟩) HSd.out ?_
    rotate_left
    · (intro wq hSw; obtain ⟨g0, g3, g4, g5, g6⟩ := hSw; go_simp; all_goals (with_reducible rfl))
    try simp only [List.getElem_toArray, List.getElem_cons_succ, List.getElem_cons_zero, Act.put, List.setIfInBounds_toArray, List.set_cons_zero, List.set_cons_succ]
    refine wpT_take (i := 3) (v := ?_) rfl (by kernel_rfl) (by kernel_rfl) (by kernel_rfl) (by kernel_rfl) (fun _ _ _ h => h) (Or.inl ⟨by rfl, ?_⟩) HSd.out ?_
    rotate_left
    · (intro wq hSw; obtain ⟨g0, g3, g4, g5, g6⟩ := hSw; go_simp; all_goals (with_reducible rfl))
    try simp only [List.getElem_toArray, List.getElem_cons_succ, List.getElem_cons_zero, Act.put, List.setIfInBounds_toArray, List.set_cons_zero, List.set_cons_succ]
    refine wpT_take (i := 4) (v := ?_) rfl (by kernel_rfl) (by kernel_rfl) (by kernel_rfl) (by kernel_rfl) (fun _ _ _ h => h) (Or.inl ⟨by rfl, ?_⟩) HSd.out ?_
    rotate_left
    · (intro wq hSw; obtain ⟨g0, g3, g4, g5, g6⟩ := hSw; go_simp; all_goals (with_reducible rfl))
    try simp only [List.getElem_toArray, List.getElem_cons_succ, List.getElem_cons_zero, Act.put, List.setIfInBounds_toArray, List.set_cons_zero, List.set_cons_succ]
    refine wpT_take (i := 5) (v := ?_) rfl (by kernel_rfl) (by kernel_rfl) (by kernel_rfl) (by kernel_rfl) (fun _ _ _ h => h) (Or.inl ⟨by rfl, ?_⟩) HSd.out ?_
    rotate_left
    · (intro wq hSw; obtain ⟨g0, g3, g4, g5, g6⟩ := hSw; go_simp; all_goals (with_reducible rfl))
    try simp only [List.getElem_toArray, List.getElem_cons_succ, List.getElem_cons_zero, Act.put, List.setIfInBounds_toArray, List.set_cons_zero, List.set_cons_succ]
    refine wpT_take (i := 6) (v := ?_) rfl (by kernel_rfl) (by kernel_rfl) (by kernel_rfl) (by kernel_rfl) (fun _ _ _ h => h) (Or.inl ⟨by rfl, ?_⟩) HSd.out ?_
    rotate_left
    · (intro wq hSw; obtain ⟨g0, g3, g4, g5, g6⟩ := hSw; go_simp; all_goals (with_reducible rfl))
    try simp only [List.getElem_toArray, List.getElem_cons_succ, List.getElem_cons_zero, Act.put, List.setIfInBounds_toArray, List.set_cons_zero, List.set_cons_succ]
    refine wpT_take (i := 7) (v := ?_) rfl (by kernel_rfl) (by kernel_rfl) (by kernel_rfl) (by kernel_rfl) (fun _ _ _ h => h) (Or.inl ⟨by rfl, ?_⟩) HSd.out ?_
    rotate_left
    · (intro wq hSw; obtain ⟨g0, g3, g4, g5, g6⟩ := hSw; go_simp; all_goals (with_reducible rfl))
    try simp only [List.getElem_toArray, List.getElem_cons_succ, List.getElem_cons_zero, Act.put, List.setIfInBounds_toArray, List.set_cons_zero, List.set_cons_succ]
    refine wpT_take (i := 8) (v := ?_) rfl (by kernel_rfl) (by kernel_rfl) (by kernel_rfl) (by kernel_rfl) (fun _ _ _ h => h) (Or.inl ⟨by rfl, ?_⟩) HSd.out ?_
    rotate_left
    · (intro wq hSw; obtain ⟨g0, g3, g4, g5, g6⟩ := hSw; go_simp; all_goals (with_reducible rfl))
    try simp only [List.getElem_toArray, List.getElem_cons_succ, List.getElem_cons_zero, Act.put, List.setIfInBounds_toArray, List.set_cons_zero, List.set_cons_succ]
    refine wpT_take (i := 9) (v := ?_) rfl (by kernel_rfl) (by kernel_rfl) (by kernel_rfl) (by kernel_rfl) (fun _ _ _ h => h) (Or.inl ⟨by rfl, ?_⟩) HSd.out ?_
    rotate_left
    · (intro wq hSw; obtain ⟨g0, g3, g4, g5, g6⟩ := hSw; go_simp; all_goals (with_reducible rfl))
    try simp only [List.getElem_toArray, List.getElem_cons_succ, List.getElem_cons_zero, Act.put, List.setIfInBounds_toArray, List.set_cons_zero, List.set_cons_succ]
    refine wpT_take (i := 10) (v := ?_) rfl (by kernel_rfl) (by kernel_rfl) (by kernel_rfl) (by kernel_rfl) (fun _ _ _ h => h) (Or.inl ⟨by rfl, ?_⟩) HSd.out ?_
    rotate_left
    · (intro wq hSw; obtain ⟨g0, g3, g4, g5, g6⟩ := hSw; go_simp; all_goals (with_reducible rfl))
    try simp only [List.getElem_toArray, List.getElem_cons_succ, List.getElem_cons_zero, Act.put, List.setIfInBounds_toArray, List.set_cons_zero, List.set_cons_succ]
    refine wpT_two (i := 11) (j := 13) rfl rfl (by kernel_rfl) (fun K hK => ?_) (fun K hK => ?_)
    · go_simp
      have hbm : Below wn.heap.size wn (wn.alloc (.cells M 51)).drew := ((Below.refl wn.heap.size wn).alloc (Nat.le_refl _) _).drew
      refine hK.out _ _ (fun _ => HSB.out _ hbm) ?_
      clear hK K
      try simp only [List.getElem_toArray, List.getElem_cons_succ, List.getElem_cons_zero, Act.put, List.setIfInBounds_toArray, List.set_cons_zero, List.set_cons_succ]
      refine wpT_take (i := 12) (v := ?_) rfl (by kernel_rfl) (by kernel_rfl) (by kernel_rfl) (by kernel_rfl) (fun _ _ _ h => h) (Or.inl ⟨by rfl, ?_⟩) (HSB.out _ hbm) ?_
      rotate_left
      · (intro wq hSw; go_simp; all_goals (with_reducible rfl))
      try simp only [List.getElem_toArray, List.getElem_cons_succ, List.getElem_cons_zero, Act.put, List.setIfInBounds_toArray, List.set_cons_zero, List.set_cons_succ]
      refine wpT_one (i := 13) rfl (by kernel_rfl) fun K hK => ?_
      go_simp
      have hbA : Below wn.heap.size wn ((wn.alloc (.cells M 51)).alloc (.cells #[.int .i64 0, .int .i64 0, .string ⟨#[]⟩, .slice none 0 0, .slice none 0 0] 51)).drew := (((Below.refl wn.heap.size wn).alloc (Nat.le_refl _) _).alloc (by simp) _).drew
      have TB := new_box (wn.alloc (.cells M 51)) 51
      rw [World.size_alloc] at TB
      replace TB := TB.keep (Below.refl _ _).drew TB.lt
      refine hK.out _ _ (fun _ => HSB.out _ hbA) ?_
      clear hK K
      try simp only [List.getElem_toArray, List.getElem_cons_succ, List.getElem_cons_zero, Act.put, List.setIfInBounds_toArray, List.set_cons_zero, List.set_cons_succ]
      generalize ((wn.alloc (.cells M 51)).alloc (.cells #[.int .i64 0, .int .i64 0, .string ⟨#[]⟩, .slice none 0 0, .slice none 0 0] 51)).drew = wt at hbA TB ⊢
      clear hbm
      obtain ⟨t0, t1, t2, t3, t4, t5, t6⟩ := id TB
      refine wpT_one (i := 14) rfl (by kernel_rfl) fun K hK => ?_
      go_simp
      refine hK.out _ _ (fun h => absurd h (by decide)) ?_
      clear hK K
      try simp only [List.getElem_toArray, List.getElem_cons_succ, List.getElem_cons_zero, Act.put, List.setIfInBounds_toArray, List.set_cons_zero, List.set_cons_succ]
      refine wpT_done (by kernel_rfl) ?_
      have TB2 := TB.fill (.mk k s n ls []) (.slice A ls.length cap) (.slice (some ⟨wn.heap.size, 0, none⟩) kids kids)
      have hbt := below_fill hbA (b := (wn.heap.size + 1)) (by omega) (.int .i64 k) (.int .i64 s) (.string ⟨n.toArray⟩) (.slice A ls.length cap) (.slice (some ⟨wn.heap.size, 0, none⟩) kids kids)
      simp only [Ty.kind, Ty.sort, Ty.name] at TB2
      generalize (((((wt.setCell ⟨(wn.heap.size + 1), 0, none⟩ (.int .i64 k)).setCell ⟨(wn.heap.size + 1), 1, none⟩ (.int .i64 s)).setCell ⟨(wn.heap.size + 1), 2, none⟩ (.string ⟨n.toArray⟩)).setCell ⟨(wn.heap.size + 1), 3, none⟩ (.slice A ls.length cap)).setCell ⟨(wn.heap.size + 1), 4, none⟩ (.slice (some ⟨wn.heap.size, 0, none⟩) kids kids)) = wf at TB2 hbt ⊢
      obtain ⟨y0, y3, y4, y5, y6⟩ := HSB.out _ hbt
      clear TB hbA t0 t1 t2 t3 t4 t5 t6 HSB HSd
      clear wt
      obtain ⟨t0, t1, t2, t3, t4, t5, t6⟩ := id TB2
      simp only [Ty.kind, Ty.sort, Ty.name] at t0 t1 t2
      go_wp2_with (go_at_call 112; go_must (refine (part_val k s n ls kids _ _ _ _ hn hl hs (by omega) ((HV.out.keep hb0).keep hbt)).mono ?_; rintro e wp ⟨rfl, hbp⟩))
      all_goals
        go_ret
        refine ⟨ret_bool' ?_, by first | exact chain (chain hb0 hbt) hbp | exact chain hb0 hbt⟩
        rw [← HA.out]
        have e1 := HR1.out
        have e2 := HR2.out
        simp only [beq_iff_eq, beq_eq_false_iff_ne, ne_eq] at *
        have e3 : isRole [] = false := rfl
        first
          | (simp [gShape, talkOk, pairOk, noneOk, *]; done)
          | (simp [gShape, talkOk, pairOk, noneOk, *]; intro h; first | exact absurd h (by assumption) | simp_all)
    · go_simp
      have hbm : Below wn.heap.size wn (wn.alloc (.cells #[.int .i64 0, .int .i64 0, .string ⟨#[]⟩, .slice none 0 0, .slice none 0 0] 51)).drew := ((Below.refl wn.heap.size wn).alloc (Nat.le_refl _) _).drew
      refine hK.out _ _ (fun _ => HSB.out _ hbm) ?_
      clear hK K
      try simp only [List.getElem_toArray, List.getElem_cons_succ, List.getElem_cons_zero, Act.put, List.setIfInBounds_toArray, List.set_cons_zero, List.set_cons_succ]
      refine wpT_one (i := 11) rfl (by kernel_rfl) fun K hK => ?_
      go_simp
      have hbA : Below wn.heap.size wn ((wn.alloc (.cells #[.int .i64 0, .int .i64 0, .string ⟨#[]⟩, .slice none 0 0, .slice none 0 0] 51)).alloc (.cells M 51)).drew := (((Below.refl wn.heap.size wn).alloc (Nat.le_refl _) _).alloc (by simp) _).drew
      have TB := new_box wn 51
      replace TB := TB.keep ((Below.refl _ _).alloc (Nat.le_refl _) (.cells M 51)) TB.lt
      replace TB := TB.keep (Below.refl _ _).drew TB.lt
      refine hK.out _ _ (fun _ => HSB.out _ hbA) ?_
      clear hK K
      try simp only [List.getElem_toArray, List.getElem_cons_succ, List.getElem_cons_zero, Act.put, List.setIfInBounds_toArray, List.set_cons_zero, List.set_cons_succ]
      generalize ((wn.alloc (.cells #[.int .i64 0, .int .i64 0, .string ⟨#[]⟩, .slice none 0 0, .slice none 0 0] 51)).alloc (.cells M 51)).drew = wt at hbA TB ⊢
      refine wpT_take (i := 12) (v := ?_) rfl (by kernel_rfl) (by kernel_rfl) (by kernel_rfl) (by kernel_rfl) (fun _ _ _ h => h) (Or.inl ⟨by rfl, ?_⟩) (HSB.out _ hbA) ?_
      rotate_left
      · (intro wq hSw; go_simp; all_goals (with_reducible rfl))
      try simp only [List.getElem_toArray, List.getElem_cons_succ, List.getElem_cons_zero, Act.put, List.setIfInBounds_toArray, List.set_cons_zero, List.set_cons_succ]
      clear hbm
      obtain ⟨t0, t1, t2, t3, t4, t5, t6⟩ := id TB
      refine wpT_one (i := 14) rfl (by kernel_rfl) fun K hK => ?_
      go_simp
      refine hK.out _ _ (fun h => absurd h (by decide)) ?_
      clear hK K
      try simp only [List.getElem_toArray, List.getElem_cons_succ, List.getElem_cons_zero, Act.put, List.setIfInBounds_toArray, List.set_cons_zero, List.set_cons_succ]
      refine wpT_done (by kernel_rfl) ?_
      have TB2 := TB.fill (.mk k s n ls []) (.slice A ls.length cap) (.slice (some ⟨(wn.heap.size + 1), 0, none⟩) kids kids)
      have hbt := below_fill hbA (b := wn.heap.size) (by omega) (.int .i64 k) (.int .i64 s) (.string ⟨n.toArray⟩) (.slice A ls.length cap) (.slice (some ⟨(wn.heap.size + 1), 0, none⟩) kids kids)
      simp only [Ty.kind, Ty.sort, Ty.name] at TB2
      generalize (((((wt.setCell ⟨wn.heap.size, 0, none⟩ (.int .i64 k)).setCell ⟨wn.heap.size, 1, none⟩ (.int .i64 s)).setCell ⟨wn.heap.size, 2, none⟩ (.string ⟨n.toArray⟩)).setCell ⟨wn.heap.size, 3, none⟩ (.slice A ls.length cap)).setCell ⟨wn.heap.size, 4, none⟩ (.slice (some ⟨(wn.heap.size + 1), 0, none⟩) kids kids)) = wf at TB2 hbt ⊢
      obtain ⟨y0, y3, y4, y5, y6⟩ := HSB.out _ hbt
      clear TB hbA t0 t1 t2 t3 t4 t5 t6 HSB HSd
      clear wt
      obtain ⟨t0, t1, t2, t3, t4, t5, t6⟩ := id TB2
      simp only [Ty.kind, Ty.sort, Ty.name] at t0 t1 t2
      go_wp2_with (go_at_call 112; go_must (refine (part_val k s n ls kids _ _ _ _ hn hl hs (by omega) ((HV.out.keep hb0).keep hbt)).mono ?_; rintro e wp ⟨rfl, hbp⟩))
      all_goals
        go_ret
        refine ⟨ret_bool' ?_, by first | exact chain (chain hb0 hbt) hbp | exact chain hb0 hbt⟩
        rw [← HA.out]
        have e1 := HR1.out
        have e2 := HR2.out
        simp only [beq_iff_eq, beq_eq_false_iff_ne, ne_eq] at *
        have e3 : isRole [] = false := rfl
        first
          | (simp [gShape, talkOk, pairOk, noneOk, *]; done)
          | (simp [gShape, talkOk, pairOk, noneOk, *]; intro h; first | exact absurd h (by assumption) | simp_all)
theorem talk_any (t : Gl) (v : Value) (w : World) {D : Blocks} (hv : GlV D w v t) (hf : GFit t) :
    Calls Tryd.prog 185 #[v] w fun e w' => e = .returned (.bool (gShape t.kind t.frm t.rcv t.sort t.name t.labels t.kids.length)) ∧ Below w.heap.size w w' := by
  obtain ⟨lv, kv, rfl, h1, A, cap, rfl, -, -⟩ := hv
  obtain ⟨-, -, f3, f4, f5, f6, -⟩ := hf.parts
  replace h1 := h1.is
  have h1' := h1
  obtain ⟨A', cap', rfl, -, -⟩ := h1'
  exact talk_val t.kind t.frm t.rcv t.sort t.name t.labels t.kids.length A' cap' A cap w f3 f4 f5 f6 h1
end Go.Proofs.YtcacembpegoghaaDoor
