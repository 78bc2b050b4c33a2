/-
  The reference's ParseGlobal answers what the program's Parse answers.
-/
import Derived.Test.YtcacembpegoghaaDoorGlX3
import Derived.Test.YtcacembpegoghaaDoorGlB
import Derived.Test.YtcacembpegoghaaDoorGlW
namespace Go.Proofs.YtcacembpegoghaaDoor
open Go.RowKit Go.Proofs

set_option maxRecDepth 100000
def gscOf (l : Str) (t : Gl) : St → Gl × Int × Nat
  | ⟨_, some q⟩ => (zeroGl, 3, q)
  | ⟨p, none⟩ => if ¬ pk l (sk l p) = [] then (zeroGl, 3, sk l p) else if glErr t = 0 then (t, 0, 0) else (zeroGl, glErr t, 0)
theorem gscParse_of (l : Str) : gscParse l = if 2000 < l.length then (zeroGl, 2, 0) else gscOf l (gscanF l (l.length + 1) ⟨0, none⟩).1 (gscanF l (l.length + 1) ⟨0, none⟩).2 := by
  unfold gscParse
  generalize gscanF l (l.length + 1) ⟨0, none⟩ = X
  obtain ⟨t, p, bad⟩ := X
  cases bad <;> rfl
set_option maxHeartbeats 4000000 in
theorem gscParse_any (l : Str) (w : World) (hl : l.length ≤ 9223372036854775807) :
    Calls Tryd.prog 25 #[.string ⟨l.toArray⟩] w fun e w' => Below w.heap.size w w' ∧ ∃ v, e = .returned (.tuple #[v, .agg #[.int .i64 (gdParse l).2.1, .int .i64 (gdParse l).2.2]]) ∧ GlV (fun k => w.heap.size ≤ k) w' v (gdParse l).1 := by
  rw [← gparse_agree]
  obtain ⟨TT, CC, AA, hA⟩ : ∃ t c a, gscParse l = (t, c, a) := ⟨_, _, _, rfl⟩
  rw [hA]
  simp only
  have HA := Lib.hid hA; clear hA
  by_cases h2000 : l.length ≤ 2000
  case pos =>
    have hd : decide ((2000 : Int) < (l.length : Int)) = false := by simp; omega
    go_enter Tryd.func25, Tryd.ntmps25
    go_wp2_with fail
    obtain ⟨W, hW⟩ : ∃ x, ((w.alloc (.cells #[.int .i64 0, .string ⟨#[]⟩, .string ⟨#[]⟩, .int .i64 0, .string ⟨#[]⟩, .slice none 0 0, .slice none 0 0] 42)).alloc (.cells #[.int .i64 0, .int .i64 0] 44)).alloc (.cells #[.string ⟨l.toArray⟩, .int .i64 0, .bool false, .int .i64 0, .int .i64 0] 130) = x := ⟨_, rfl⟩
    have hbW : Below w.heap.size w W := by subst hW; go_grown
    have XB : GBox W w.heap.size zeroGl (.slice none 0 0) (.slice none 0 0) := by subst hW; exact ⟨by simp [go_sem]; rfl, by simp [go_sem]; rfl, by simp [go_sem]; rfl, by simp [go_sem]; rfl, by simp [go_sem]; rfl, by simp [go_sem], by simp [go_sem], fun j => by simp [go_sem], by simp; omega⟩
    have f0 : W.cell? ⟨w.heap.size + 1, 0, none⟩ = some (.int .i64 0) := by subst hW; simp [go_sem]
    have f1 : W.cell? ⟨w.heap.size + 1, 1, none⟩ = some (.int .i64 0) := by subst hW; simp [go_sem]
    have fz : ∀ j, W.frozen? ⟨w.heap.size + 1, j, none⟩ = false := by subst hW; intro j; simp [go_sem]
    have RB : SBox W (w.heap.size + 1 + 1) l ⟨0, none⟩ := by subst hW; exact ⟨by simp [go_sem], by simp [go_sem], by simp [go_sem], by simp [go_sem]; rfl, by simp [go_sem]; rfl, fun j => by simp [go_sem], by simp⟩
    rw [hW]
    clear hW
    have hWlt : w.heap.size + 1 + 1 < W.heap.size := RB.lt
    have hFlt := cell_lt f0
    refine (gscan_any l (w.heap.size + 1 + 1) h2000 (l.length + 1) ⟨0, none⟩ W (Nat.zero_le _) (fun _ => by show l.length < l.length + 1 + 0; omega) RB).mono ?_
    have hon := gscan_on (l := l) (l.length + 1) ⟨0, none⟩ (Nat.zero_le _)
    have hfit : (gscanF l (l.length + 1) ⟨0, none⟩).2.bad = none → GFit (gscanF l (l.length + 1) ⟨0, none⟩).1 := fun h => by
      have h1 := gscan_agree (l := l) (l.length + 1) 0
      have h2 := gdOne_fit (l := l) (by unfold maxLen; omega) (l.length + 1) 0
      cases hr : gdOne l (l.length + 1) 0 with
      | bad q => rw [hr] at h1; have h1' : (gscanF l (l.length + 1) ⟨0, none⟩).2.bad = some q := h1; rw [h1'] at h; cases h
      | ok t q => rw [hr] at h1 h2; have h1' : gscanF l (l.length + 1) ⟨0, none⟩ = (t, ⟨q, none⟩) := h1; rw [h1']; exact h2
    have HB : Hid (gscOf l (gscanF l (l.length + 1) ⟨0, none⟩).1 (gscanF l (l.length + 1) ⟨0, none⟩).2 = (TT, CC, AA)) := Lib.hid (by rw [← HA.out, gscParse_of, if_neg (show ¬ 2000 < l.length by omega)])
    clear HA
    generalize gscanF l (l.length + 1) ⟨0, none⟩ = RS at *
    obtain ⟨t, q, bd⟩ := RS
    simp only at hon hfit HB
    rintro e w5 ⟨hg, v, rfl, hT, RB5⟩
    have hw5 : Below w.heap.size w w5 := hbW.grown hg hbW.size (fun k e => by have := Option.some.inj e; omega)
    have XB5 := XB.grown' hg (by omega)
    have f05 := grown_cell hg (by omega) f0
    have f15 := grown_cell hg (by omega) f1
    have fz05 := grown_frozen hg (by omega) f0 (fz 0)
    have fz15 := grown_frozen hg (by omega) f1 (fz 1)
    obtain ⟨lv, kv, rfl, k1, k2⟩ := hT
    simp only at k1 k2 RB5
    have K1 := Lib.hid (k1.keep (D' := fun k => w.heap.size + 1 + 1 < k) (fun _ _ _ => rfl) (fun k hk _ => by have : W.heap.size ≤ k := hk; omega))
    have K2 := Lib.hid (k2.keep (D' := fun k => w.heap.size + 1 + 1 < k) (fun _ _ _ => rfl) (fun k hk _ => by have : W.heap.size ≤ k := hk; omega))
    obtain ⟨A1, c1, rfl, -, -⟩ := k1
    obtain ⟨A2, c2, rfl, -, -⟩ := k2
    clear hg XB f0 f1 fz RB hbW hFlt hWlt
    clear W
    rename_i Kx hkx Ky hky
    have HKX := Lib.hid hkx
    clear hkx
    go_wp2_with fail
    have hb6 : Below w5.heap.size w5 (w5.alloc (.cells #[.int .i64 t.kind, .string ⟨t.frm.toArray⟩, .string ⟨t.rcv.toArray⟩, .int .i64 t.sort, .string ⟨t.name.toArray⟩, .slice A1 t.labels.length c1, .slice A2 t.kids.length c2] 42)) := (Below.refl _ _).alloc (Nat.le_refl _) _
    have TB5 := new_gval w5 t (.slice A1 t.labels.length c1) (.slice A2 t.kids.length c2) 42
    have XB6 := XB5.keep hb6 XB5.lt
    have RB6 := RB5.keep hb6
    have f06 := cell_keep f05 hb6
    have f16 := cell_keep f15 hb6
    have fz06 := (hb6.frozen (p := ⟨w.heap.size + 1, 0, none⟩) (cell_lt f05)).trans fz05
    have fz16 := (hb6.frozen (p := ⟨w.heap.size + 1, 1, none⟩) (cell_lt f05)).trans fz15
    have hw6 := chain hw5 hb6
    replace K1 := Lib.hid (K1.out.keep (D' := fun k => w.heap.size + 1 + 1 < k) (Same.below hb6) (fun _ h _ => h))
    replace K2 := Lib.hid (K2.out.keep (D' := fun k => w.heap.size + 1 + 1 < k) (Same.below hb6) (fun _ h _ => h))
    have hTw := RB5.lt
    have TB6 := TB5
    clear TB5
    generalize w5.alloc (.cells #[.int .i64 t.kind, .string ⟨t.frm.toArray⟩, .string ⟨t.rcv.toArray⟩, .int .i64 t.sort, .string ⟨t.name.toArray⟩, .slice A1 t.labels.length c1, .slice A2 t.kids.length c2] 42) = w6 at TB6 XB6 RB6 f06 f16 fz06 fz16 hw6 K1 K2 ⊢
    clear hb6 XB5 RB5 f05 f15 fz05 fz15 hw5
    generalize w5.heap.size = T at TB6 hTw ⊢
    clear w5
    refine HKX.out _ _ ?_
    clear HKX
    cases bd with
    | some q0 =>
      obtain ⟨x0, x1, x2, x3, x4, x5, x6, x7, x8⟩ := id XB6
      obtain ⟨t0, t1, t2, t3, t4, t5, t6, t7, t8⟩ := id TB6
      obtain ⟨r0, r1, r2, r3, r4, r5, r6⟩ := id RB6
      simp only [codeOf, placeOf] at r3 r4
      have hq := HB.out
      simp only [gscOf] at hq
      simp only [Prod.mk.injEq] at hq
      obtain ⟨rfl, rfl, rfl⟩ := hq
      go_wp2_with fail
      go_region
      go_wp2_with fail
      obtain ⟨TB9, f09, f19, hbl, hsm⟩ := glaid_facts w.heap.size (w.heap.size + 1) w6 XB6 f06 f16 (by omega) (by omega) zeroGl (.slice none 0 0) (.slice none 0 0) 3 (q0 : Int)
      have hbN := hbl _ _ hw6 (Nat.le_refl _) (by omega)
      simp only [zeroGl, Gl.kind, Gl.frm, Gl.rcv, Gl.sort, Gl.name] at TB9 f09 f19 hbN
      generalize (((((((((w6.setCell ⟨w.heap.size, 0, none⟩ (.int .i64 0)).setCell ⟨w.heap.size, 1, none⟩ (.string ⟨([] : Str).toArray⟩)).setCell ⟨w.heap.size, 2, none⟩ (.string ⟨([] : Str).toArray⟩)).setCell ⟨w.heap.size, 3, none⟩ (.int .i64 0)).setCell ⟨w.heap.size, 4, none⟩ (.string ⟨([] : Str).toArray⟩)).setCell ⟨w.heap.size, 5, none⟩ (.slice none 0 0)).setCell ⟨w.heap.size, 6, none⟩ (.slice none 0 0)).setCell ⟨w.heap.size + 1, 0, none⟩ (.int .i64 3)).setCell ⟨w.heap.size + 1, 1, none⟩ (.int .i64 (q0 : Int))) = w9 at TB9 f09 f19 hbN ⊢
      have TB9' : GBox w9.drew w.heap.size (.mk 0 [] [] 0 [] [] []) (.slice none 0 0) (.slice none 0 0) := ⟨TB9.c0, TB9.c1, TB9.c2, TB9.c3, TB9.c4, TB9.c5, TB9.c6, TB9.fr, TB9.lt⟩
      have f09' : w9.drew.cell? ⟨w.heap.size + 1, 0, none⟩ = some (.int .i64 3) := f09
      have f19' : w9.drew.cell? ⟨w.heap.size + 1, 1, none⟩ = some (.int .i64 (q0 : Int)) := f19
      have hbN' := hbN.drew
      clear TB9 f09 f19 hbN hbl hsm 
      generalize w9.drew = w10 at TB9' f09' f19' hbN'  ⊢
      have TB9 := TB9'
      clear TB9'
      have f09 := f09'
      clear f09'
      have f19 := f19'
      clear f19'
      have hbN := hbN'
      clear hbN'
      obtain ⟨y0, y1, y2, y3, y4, y5, y6, y7, y8⟩ := id TB9
      simp only [Gl.kind, Gl.frm, Gl.rcv, Gl.sort, Gl.name] at y0 y1 y2 y3 y4
      refine bodyPost_ret (v := .tuple #[.agg #[.int .i64 0, .string ⟨([] : Str).toArray⟩, .string ⟨([] : Str).toArray⟩, .int .i64 0, .string ⟨([] : Str).toArray⟩, .slice none 0 0, .slice none 0 0], .agg #[.int .i64 3, .int .i64 (q0 : Int)]]) (by simp [results, Tryd.results25, go_sem, y0, y1, y2, y3, y4, y5, y6, f09, f19]) rfl ?_
      exact ⟨hbN, _, rfl, zero_gl _ _⟩
    | none =>
      obtain ⟨x0, x1, x2, x3, x4, x5, x6, x7, x8⟩ := id XB6
      obtain ⟨t0, t1, t2, t3, t4, t5, t6, t7, t8⟩ := id TB6
      obtain ⟨r0, r1, r2, r3, r4, r5, r6⟩ := id RB6
      simp only [codeOf, placeOf] at r3 r4
      go_wp2_with fail
      refine (peek_any l (w.heap.size + 1 + 1) q none w6 h2000 hon.2.1 RB6).mono ?_
      have hs1 := sk_le hon.2.1
      simp only at hs1
      have hss := sk_sk l q
      rintro e w7 ⟨rfl, hg, RB7⟩
      have TB7 := TB6.grown' hg (by omega)
      have XB7 := XB6.grown' hg (by omega)
      have f07 := grown_cell hg (by omega) f06
      have f17 := grown_cell hg (by omega) f16
      have fz07 := grown_frozen hg (by omega) f06 fz06
      have fz17 := grown_frozen hg (by omega) f16 fz16
      have hw7 : Below w.heap.size w w7 := hw6.grown hg hw6.size (fun k e => by have := Option.some.inj e; omega)
      have hsm : Same (fun k => w.heap.size + 1 + 1 < k) w6 w7 := Same.grown hg (fun k hk e => by have := Option.some.inj e; omega)
      replace K1 := Lib.hid (K1.out.keep (D' := fun k => w.heap.size + 1 + 1 < k) hsm (fun _ h _ => h))
      replace K2 := Lib.hid (K2.out.keep (D' := fun k => w.heap.size + 1 + 1 < k) hsm (fun _ h _ => h))
      clear hsm hg TB6 XB6 RB6 f06 f16 fz06 fz16 hw6
      clear x0 x1 x2 x3 x4 x5 x6 x7 x8 t0 t1 t2 t3 t4 t5 t6 t7 t8 r0 r1 r2 r3 r4 r5 r6
      clear w6
      by_cases hpk : pk l (sk l q) = []
      case neg =>
        have hq := HB.out
        simp only [gscOf, if_pos hpk] at hq
        clear HB
        have hpe : (pk l (sk l q) == []) = false := by simpa using hpk
        clear hpk
        generalize sk l q = Q at hq hs1 hss RB7 hpe ⊢
        simp only [Prod.mk.injEq] at hq
        obtain ⟨rfl, rfl, rfl⟩ := hq
        obtain ⟨x0, x1, x2, x3, x4, x5, x6, x7, x8⟩ := id XB7
        obtain ⟨t0, t1, t2, t3, t4, t5, t6, t7, t8⟩ := id TB7
        obtain ⟨r0, r1, r2, r3, r4, r5, r6⟩ := id RB7
        simp only [codeOf, placeOf] at r3 r4
        go_wp2_with fail
        refine (Fail_none l (w.heap.size + 1 + 1) Q w7 h2000 hs1.2 RB7).mono ?_
        rw [hss]
        rintro e w8 ⟨rfl, hg, RB8⟩
        have TB8 := TB7.grown' hg (by omega)
        have XB8 := XB7.grown' hg (by omega)
        have f08 := grown_cell hg (by omega) f07
        have f18 := grown_cell hg (by omega) f17
        have fz08 := grown_frozen hg (by omega) f07 fz07
        have fz18 := grown_frozen hg (by omega) f17 fz17
        have hw8 : Below w.heap.size w w8 := hw7.grown hg hw7.size (fun k e => by have := Option.some.inj e; omega)
        have hsm : Same (fun k => w.heap.size + 1 + 1 < k) w7 w8 := Same.grown hg (fun k hk e => by have := Option.some.inj e; omega)
        replace K1 := Lib.hid (K1.out.keep (D' := fun k => w.heap.size + 1 + 1 < k) hsm (fun _ h _ => h))
        replace K2 := Lib.hid (K2.out.keep (D' := fun k => w.heap.size + 1 + 1 < k) hsm (fun _ h _ => h))
        clear hsm hg TB7 XB7 RB7 f07 f17 fz07 fz17 hw7
        clear x0 x1 x2 x3 x4 x5 x6 x7 x8 t0 t1 t2 t3 t4 t5 t6 t7 t8 r0 r1 r2 r3 r4 r5 r6
        clear w7
        obtain ⟨x0, x1, x2, x3, x4, x5, x6, x7, x8⟩ := id XB8
        obtain ⟨t0, t1, t2, t3, t4, t5, t6, t7, t8⟩ := id TB8
        obtain ⟨r0, r1, r2, r3, r4, r5, r6⟩ := id RB8
        simp only [codeOf, placeOf] at r3 r4
        go_wp2_with fail
        go_region
        go_wp2_with fail
        obtain ⟨TB9, f09, f19, hbl, hsm⟩ := glaid_facts w.heap.size (w.heap.size + 1) w8 XB8 f08 f18 (by omega) (by omega) zeroGl (.slice none 0 0) (.slice none 0 0) 3 (Q : Int)
        have hbN := hbl _ _ hw8 (Nat.le_refl _) (by omega)
        simp only [zeroGl, Gl.kind, Gl.frm, Gl.rcv, Gl.sort, Gl.name] at TB9 f09 f19 hbN
        generalize (((((((((w8.setCell ⟨w.heap.size, 0, none⟩ (.int .i64 0)).setCell ⟨w.heap.size, 1, none⟩ (.string ⟨([] : Str).toArray⟩)).setCell ⟨w.heap.size, 2, none⟩ (.string ⟨([] : Str).toArray⟩)).setCell ⟨w.heap.size, 3, none⟩ (.int .i64 0)).setCell ⟨w.heap.size, 4, none⟩ (.string ⟨([] : Str).toArray⟩)).setCell ⟨w.heap.size, 5, none⟩ (.slice none 0 0)).setCell ⟨w.heap.size, 6, none⟩ (.slice none 0 0)).setCell ⟨w.heap.size + 1, 0, none⟩ (.int .i64 3)).setCell ⟨w.heap.size + 1, 1, none⟩ (.int .i64 (Q : Int))) = w9 at TB9 f09 f19 hbN ⊢
        have TB9' : GBox w9.drew w.heap.size (.mk 0 [] [] 0 [] [] []) (.slice none 0 0) (.slice none 0 0) := ⟨TB9.c0, TB9.c1, TB9.c2, TB9.c3, TB9.c4, TB9.c5, TB9.c6, TB9.fr, TB9.lt⟩
        have f09' : w9.drew.cell? ⟨w.heap.size + 1, 0, none⟩ = some (.int .i64 3) := f09
        have f19' : w9.drew.cell? ⟨w.heap.size + 1, 1, none⟩ = some (.int .i64 (Q : Int)) := f19
        have hbN' := hbN.drew
        clear TB9 f09 f19 hbN hbl hsm 
        generalize w9.drew = w10 at TB9' f09' f19' hbN'  ⊢
        have TB9 := TB9'
        clear TB9'
        have f09 := f09'
        clear f09'
        have f19 := f19'
        clear f19'
        have hbN := hbN'
        clear hbN'
        obtain ⟨y0, y1, y2, y3, y4, y5, y6, y7, y8⟩ := id TB9
        simp only [Gl.kind, Gl.frm, Gl.rcv, Gl.sort, Gl.name] at y0 y1 y2 y3 y4
        refine bodyPost_ret (v := .tuple #[.agg #[.int .i64 0, .string ⟨([] : Str).toArray⟩, .string ⟨([] : Str).toArray⟩, .int .i64 0, .string ⟨([] : Str).toArray⟩, .slice none 0 0, .slice none 0 0], .agg #[.int .i64 3, .int .i64 (Q : Int)]]) (by simp [results, Tryd.results25, go_sem, y0, y1, y2, y3, y4, y5, y6, f09, f19]) rfl ?_
        exact ⟨hbN, _, rfl, zero_gl _ _⟩
      case pos =>
        replace HB : Hid ((if glErr t = 0 then (t, 0, 0) else (zeroGl, glErr t, 0)) = (TT, CC, AA)) := Lib.hid (by rw [← HB.out]; simp only [gscOf, hpk, not_true, if_false])
        rw [hpk]
        clear hpk
        generalize sk l q = Q at hs1 hss RB7 ⊢
        obtain ⟨x0, x1, x2, x3, x4, x5, x6, x7, x8⟩ := id XB7
        obtain ⟨t0, t1, t2, t3, t4, t5, t6, t7, t8⟩ := id TB7
        obtain ⟨r0, r1, r2, r3, r4, r5, r6⟩ := id RB7
        simp only [codeOf, placeOf] at r3 r4
        go_wp2_with fail
        refine (refGlobal_any t _ w7 (glV_of K1.out K2.out).all (hfit trivial)).mono ?_
        obtain ⟨E, hE⟩ : ∃ x, glErr t = x := ⟨_, rfl⟩
        rw [hE] at HB ⊢
        clear hE
        rintro e w8 ⟨rfl, hb8⟩
        have TB8 := TB7.keep hb8 TB7.lt
        have XB8 := XB7.keep hb8 XB7.lt
        have RB8 := RB7.keep hb8
        have f08 := cell_keep f07 hb8
        have f18 := cell_keep f17 hb8
        have fz08 := (hb8.frozen (p := ⟨w.heap.size + 1, 0, none⟩) (cell_lt f07)).trans fz07
        have fz18 := (hb8.frozen (p := ⟨w.heap.size + 1, 1, none⟩) (cell_lt f07)).trans fz17
        have hw8 := chain hw7 hb8
        replace K1 := Lib.hid (K1.out.keep (D' := fun k => w.heap.size + 1 + 1 < k) (Same.below hb8) (fun _ h _ => h))
        replace K2 := Lib.hid (K2.out.keep (D' := fun k => w.heap.size + 1 + 1 < k) (Same.below hb8) (fun _ h _ => h))
        clear TB7 XB7 RB7 f07 f17 fz07 fz17 hw7 hb8
        clear x0 x1 x2 x3 x4 x5 x6 x7 x8 t0 t1 t2 t3 t4 t5 t6 t7 t8 r0 r1 r2 r3 r4 r5 r6
        clear w7
        obtain ⟨x0, x1, x2, x3, x4, x5, x6, x7, x8⟩ := id XB8
        obtain ⟨t0, t1, t2, t3, t4, t5, t6, t7, t8⟩ := id TB8
        obtain ⟨r0, r1, r2, r3, r4, r5, r6⟩ := id RB8
        simp only [codeOf, placeOf] at r3 r4
        by_cases hE0 : E = 0
        case pos =>
          subst hE0
          have hq := HB.out
          simp only [if_true, Prod.mk.injEq] at hq
          obtain ⟨rfl, rfl, rfl⟩ := hq
          go_wp2_with fail
          obtain ⟨TB9, f09, f19, hbl, hsm⟩ := glaid_facts w.heap.size (w.heap.size + 1) w8 XB8 f08 f18 (by omega) (by omega) t (.slice A1 t.labels.length c1) (.slice A2 t.kids.length c2) 0 0
          have hbN := hbl _ _ hw8 (Nat.le_refl _) (by omega)
          have K3 := K1.out.keep (D' := fun k => w.heap.size ≤ k) (fun k hk hl => hsm k (by have : w.heap.size + 1 + 1 < k := hk; omega) hl) (fun k hk _ => by have : w.heap.size + 1 + 1 < k := hk; omega)
          have K4 := K2.out.keep (D' := fun k => w.heap.size ≤ k) (fun k hk hl => hsm k (by have : w.heap.size + 1 + 1 < k := hk; omega) hl) (fun k hk _ => by have : w.heap.size + 1 + 1 < k := hk; omega)
          generalize (((((((((w8.setCell ⟨w.heap.size, 0, none⟩ (.int .i64 t.kind)).setCell ⟨w.heap.size, 1, none⟩ (.string ⟨t.frm.toArray⟩)).setCell ⟨w.heap.size, 2, none⟩ (.string ⟨t.rcv.toArray⟩)).setCell ⟨w.heap.size, 3, none⟩ (.int .i64 t.sort)).setCell ⟨w.heap.size, 4, none⟩ (.string ⟨t.name.toArray⟩)).setCell ⟨w.heap.size, 5, none⟩ (.slice A1 t.labels.length c1)).setCell ⟨w.heap.size, 6, none⟩ (.slice A2 t.kids.length c2)).setCell ⟨w.heap.size + 1, 0, none⟩ (.int .i64 0)).setCell ⟨w.heap.size + 1, 1, none⟩ (.int .i64 0)) = w9 at TB9 f09 f19 hbN K3 K4 ⊢
          obtain ⟨y0, y1, y2, y3, y4, y5, y6, y7, y8⟩ := id TB9
          refine bodyPost_ret (v := .tuple #[.agg #[.int .i64 t.kind, .string ⟨t.frm.toArray⟩, .string ⟨t.rcv.toArray⟩, .int .i64 t.sort, .string ⟨t.name.toArray⟩, .slice A1 t.labels.length c1, .slice A2 t.kids.length c2], .agg #[.int .i64 0, .int .i64 0]]) (by simp [results, Tryd.results25, go_sem, y0, y1, y2, y3, y4, y5, y6, f09, f19]) rfl ?_
          exact ⟨hbN, _, rfl, ⟨_, _, rfl, K3, K4⟩⟩
        case neg =>
          have hbe : (E != 0) = true := by rw [bne_iff_ne]; exact hE0
          have hq := HB.out
          simp only [hE0, if_false, Prod.mk.injEq] at hq
          obtain ⟨rfl, rfl, rfl⟩ := hq
          go_wp2_with fail
          obtain ⟨TB9, f09, f19, hbl, hsm⟩ := glaid_facts w.heap.size (w.heap.size + 1) w8 XB8 f08 f18 (by omega) (by omega) zeroGl (.slice none 0 0) (.slice none 0 0) E 0
          have hbN := hbl _ _ hw8 (Nat.le_refl _) (by omega)
          simp only [zeroGl, Gl.kind, Gl.frm, Gl.rcv, Gl.sort, Gl.name] at TB9 f09 f19 hbN
          generalize (((((((((w8.setCell ⟨w.heap.size, 0, none⟩ (.int .i64 0)).setCell ⟨w.heap.size, 1, none⟩ (.string ⟨([] : Str).toArray⟩)).setCell ⟨w.heap.size, 2, none⟩ (.string ⟨([] : Str).toArray⟩)).setCell ⟨w.heap.size, 3, none⟩ (.int .i64 0)).setCell ⟨w.heap.size, 4, none⟩ (.string ⟨([] : Str).toArray⟩)).setCell ⟨w.heap.size, 5, none⟩ (.slice none 0 0)).setCell ⟨w.heap.size, 6, none⟩ (.slice none 0 0)).setCell ⟨w.heap.size + 1, 0, none⟩ (.int .i64 E)).setCell ⟨w.heap.size + 1, 1, none⟩ (.int .i64 0)) = w9 at TB9 f09 f19 hbN ⊢
          obtain ⟨y0, y1, y2, y3, y4, y5, y6, y7, y8⟩ := id TB9
          simp only [Gl.kind, Gl.frm, Gl.rcv, Gl.sort, Gl.name] at y0 y1 y2 y3 y4
          refine bodyPost_ret (v := .tuple #[.agg #[.int .i64 0, .string ⟨([] : Str).toArray⟩, .string ⟨([] : Str).toArray⟩, .int .i64 0, .string ⟨([] : Str).toArray⟩, .slice none 0 0, .slice none 0 0], .agg #[.int .i64 E, .int .i64 0]]) (by simp [results, Tryd.results25, go_sem, y0, y1, y2, y3, y4, y5, y6, f09, f19]) rfl ?_
          exact ⟨hbN, _, rfl, zero_gl _ _⟩
  case neg =>
    have hd : (2000 : Int) < (l.length : Int) := by omega
    have hres : gscParse l = (zeroGl, 2, 0) := by unfold gscParse; rw [if_pos (by omega)]
    have hq := hres.symm.trans HA.out
    simp only [Prod.mk.injEq] at hq
    obtain ⟨rfl, rfl, rfl⟩ := hq
    go_enter Tryd.func25, Tryd.ntmps25
    go_wp2_with fail
    refine bodyPost_ret (v := .tuple #[.agg #[.int .i64 0, .string ⟨([] : Str).toArray⟩, .string ⟨([] : Str).toArray⟩, .int .i64 0, .string ⟨([] : Str).toArray⟩, .slice none 0 0, .slice none 0 0], .agg #[.int .i64 2, .int .i64 0]]) (by simp [results, Tryd.results25, go_sem]) rfl ?_
    exact ⟨by go_grown, _, rfl, zero_gl _ _⟩
end Go.Proofs.YtcacembpegoghaaDoor
