/-
  The reference's Expr answers 'exErr'.
  ExprsSays: the law's walk.
  From a walk of a law ('it returns true, and all that was there stays') to what its row asks behind the call; utf8's tables out of the row's list; a world in which these tables lie.
  Data that come in, opened: structs of one-cell fields, slices of texts.
  Data that come in, with their bulk.
  Lists of numbers that come in, with their bulk.
  Expressions that come in, opened.
-/
import Derived.Test.YtmklodgcbldndaaDoorM3
import Derived.Test.YtmklodgcbldndaaDoorM8
import Derived.Test.YtmklodgcbldndaaDoorM4
import Derived.Test.YtmklodgcbldndaaDoorM6
import Derived.Test.YtmklodgcbldndaaDoorM2
import Derived.ProofKit
import Derived.OpenShut
import Derived.Carry
import Derived.ChangeSame
import Derived.Deep.DeepHandedRow
import Derived.Lib.LaidTab
import Derived.Lib.LaidU8T
import Derived.PinnedBridge
import Derived.Lib.SmallJoins
import Derived.ChangeArms
import Derived.DataReads
import Derived.Deep.Slices
import Derived.Deep.Strs
import Derived.Deep.Fields
import Derived.Test.YtmklodgcbldndaaDoorRows
import Derived.ChangeSlices
namespace Go.Proofs.YtmklodgcbldndaaDoor
open Go.RowKit Go.Proofs

set_option maxRecDepth 100000
theorem listE_cons {m : Nat} {t : Ex} {r : List Ex} : listE (m + 1) (t :: r) = if exOne t = 9 then listE m (t.kids ++ r) else if exOne t = 0 then listE m r else exOne t := rfl
theorem listE_next {m : Nat} {t : Ex} {r : List Ex} (h : exOne t = 9 ∨ exOne t = 0) : listE (m + 1) (t :: r) = listE m (t.kids ++ r) := by
  rw [listE_cons]
  rcases h with h | h
  · rw [if_pos h]
  · rw [if_neg (by omega), if_pos h, exOne_9 (by omega) h]; rfl
set_option maxHeartbeats 8000000 in
theorem refExpr_any (t0 : Ex) (v : Value) (w : World) (hv : ExV All w v t0) (hf : ExFit 1048576 t0) (hT : Tabs w) :
    Calls Tryd.prog 5 #[v] w fun e w' => e = .returned (.int .i64 (exErr t0)) ∧ Below w.heap.size w w' := by
  have HV := Lib.hid hv
  obtain ⟨A0, L0, cap0, rfl, hk0⟩ := hv.one'
  have HK0 := Lib.hid hk0
  obtain ⟨ANS, hA⟩ : ∃ x, exErr t0 = x := ⟨_, rfl⟩
  have hA1 := exErr_list t0
  rw [hA] at hA1 ⊢
  have HA := Lib.hid hA1
  clear hA hA1 hv hk0
  go_enter Tryd.func5, Tryd.ntmps5
  go_wp2_with fail
  obtain ⟨W, hW⟩ : ∃ W, (w.alloc (.cells #[.int .i64 t0.kind, .string ⟨t0.name.toArray⟩, .int .i64 t0.vs, .int .i64 t0.vn, .string ⟨t0.vt.toArray⟩, .slice A0 L0 cap0] 26)).alloc (.cells #[.int .i64 t0.kind, .string ⟨t0.name.toArray⟩, .int .i64 t0.vs, .int .i64 t0.vn, .string ⟨t0.vt.toArray⟩, .slice A0 L0 cap0] 26) = W := ⟨_, rfl⟩
  have hbW : Below w.heap.size w W := by subst hW; go_grown
  have hB : ExBox W (w.heap.size + 1) t0 (.slice A0 L0 cap0) := by subst hW; have := new_exval (w.alloc (.cells #[.int .i64 t0.kind, .string ⟨t0.name.toArray⟩, .int .i64 t0.vs, .int .i64 t0.vn, .string ⟨t0.vt.toArray⟩, .slice A0 L0 cap0] 26)) t0 (.slice A0 L0 cap0) 26; rw [World.size_alloc] at this; exact this
  have hst : Exs All W (.slice (some ⟨w.heap.size + 1, 0, none⟩) 1 1) [t0] := ⟨_, 1, rfl, Nat.le_refl _, (fun e => by cases e), fun _ => ⟨_, 0, rfl, trivial, (ExAt_iff _ _ _ _ _).2 ⟨_, hB.c0, hB.c1, hB.c2, hB.c3, hB.c4, hB.c5, HK0.out.below hbW⟩, trivial⟩⟩
  have hTW := hT.below hbW
  try rw [hW]
  clear hW hB
  go_loopw [3, 4] (fun v i wr => ∃ (k : Nat) (st : List Ex), k ≤ 60 ∧ i = .int .i64 k ∧ Exs All wr v st ∧ Hid (∀ t ∈ st, ExFit 1048576 t) ∧ st.length ≤ 1048576 * (k + 1) ∧ Below w.heap.size w wr ∧ Tabs wr ∧ Hid (listE (60 - k) st = ANS)) (fun _ i _ => 61 - (intOf i).toNat)
  case atStart => exact ⟨0, [t0], by omega, rfl, hst, Lib.hid (fun t ht => by rw [List.mem_singleton.1 ht]; exact hf), by simp, hbW, hTW, Lib.hid HA.out⟩
  case round =>
    clear hst hbW hTW
    obtain ⟨k, st, hk, rfl, hst, HFS, hlen, hbw, hTw, HL⟩ := hrel
    have HST := Lib.hid hst
    obtain ⟨A, cap, rfl, hc1, hc2, hc3⟩ := hst
    cases st with
    | nil =>
      clear hc1 hc2 hc3
      go_wp2_with fail
      go_ret
      exact ⟨by have := HL.out; rw [← this]; cases (60 - k) <;> rfl, hbw⟩
    | cons u r =>
      simp only [List.length_cons] at hc1 hlen ⊢
      obtain ⟨b, off, rfl, -, -⟩ := hc3 (by simp)
      obtain ⟨-, -, b', off', A1, n1, p1, e, -, y0, y1, y2, y3, y4, y5, hk'⟩ := exkid_at HST.out (show (u :: r)[0]? = some u from rfl)
      obtain ⟨rfl, rfl⟩ : b = b' ∧ off = off' := by have := Option.some.inj e; injection this with h1 h2; exact ⟨h1, h2⟩
      simp only [Nat.zero_mul, Nat.add_zero] at y0 y1 y2 y3 y4 y5
      have HK' := Lib.hid hk'
      clear hk' hc2 hc3 e
      obtain ⟨M, hM⟩ : ∃ M, r.length + 1 = M := ⟨_, rfl⟩
      have HM := Lib.hid hM
      simp only [List.length_cons] at HST
      rw [hM] at hc1 hlen HST ⊢
      have hM0 : 0 < M := by omega
      have hM1 : M ≤ 9223372036854775807 := by omega
      clear hM
      by_cases h60 : k = 60
      · have hE : ((k : Int) == 60) = true := by rw [beq_iff_eq]; omega
        have HE : ANS = 2 := by have := HL.out; rw [h60] at this; exact this.symm
        clear h60 y0 y1 y2 y3 y4 y5
        go_wp2_with fail
        go_ret
        exact ⟨by rw [HE]; rfl, hbw⟩
      · have hk59 : k ≤ 59 := by omega
        have hE : ((k : Int) == 60) = false := by rw [beq_eq_false_iff_ne]; omega
        clear h60
        obtain ⟨hn1, -, -, -⟩ := HK'.out.src
        have hfu : ExFit 1048576 u := HFS.out u (by simp)
        have hul : u.kids.length ≤ 1048576 := hfu.parts.2.2.2.2.2.1
        have hn1' : n1 ≤ 1048576 := by omega
        have HN1 := Lib.hid hn1
        have HFU := Lib.hid hfu
        clear hn1 hfu hul
        obtain ⟨wa, hwa⟩ : ∃ y, wr.alloc (.cells #[.int .i64 u.kind, .string ⟨u.name.toArray⟩, .int .i64 u.vs, .int .i64 u.vn, .string ⟨u.vt.toArray⟩, .slice A1 n1 p1] 26) = y := ⟨_, rfl⟩
        have hba : Below wr.heap.size wr wa := by subst hwa; exact (Below.refl _ _).alloc (Nat.le_refl _) _
        have hkb : ExBox wa wr.heap.size u (.slice A1 n1 p1) := by subst hwa; exact new_exval wr u _ _
        obtain ⟨k0, k1, k2, k3, k4, k5, k6, k7⟩ := id hkb
        have HKB := Lib.hid hkb
        go_wp2_with fail
        try rw [hwa]
        clear hwa
        have hS : ∀ w' : World, Below wa.heap.size wa w' → (fun w' : World => w'.cell? ⟨wr.heap.size, 5, none⟩ = some (.slice A1 n1 p1)) w' := fun w' h => cell_keep k5 h
        have HSd := Lib.hid (hS wa.drew (Below.refl _ _).drew)
        have HSB := Lib.hid hS
        clear hS
        obtain ⟨so, n2, c2, HSL, hR, hn2⟩ : ∃ so n2 c2, Hid ((cap = 1 ∧ M = 1 ∧ so = off ∧ n2 = 0 ∧ c2 = 0) ∨ (cap ≠ 1 ∧ so = off + 6 ∧ n2 = M - 1 ∧ c2 = cap - 1)) ∧ Exs All wr (.slice (some ⟨b, so, none⟩) n2 c2) r ∧ n2 = M - 1 := by
          by_cases hcap : cap = 1
          · have hM1' : M = 1 := by omega
            have hr : r = [] := List.eq_nil_of_length_eq_zero (by have := HM.out; omega)
            exact ⟨off, 0, 0, Or.inl ⟨hcap, hM1', rfl, rfl, rfl⟩, by rw [hr]; exact ⟨_, 0, rfl, Nat.le_refl _, (fun e => by cases e), fun h => by simp at h⟩, by omega⟩
          · refine ⟨off + 6, M - 1, cap - 1, Or.inr ⟨hcap, rfl, rfl, rfl⟩, ?_, rfl⟩
            have h1 := HM.out
            have := Exs.tail (c := cap - 1) HST.out (by omega)
            rw [show r.length = M - 1 by omega] at this
            exact this
        have hn2' : n2 ≤ M := by omega
        have HN2 := Lib.hid hn2
        have HR := Lib.hid hR
        clear hR hn2
        refine wp_region_T 6 (fun w' : World => w'.cell? ⟨wr.heap.size, 5, none⟩ = some (.slice A1 n1 p1)) (by kernel_rfl) ?_
        refine wpT_take (i := 0) (v := ?_) rfl (by kernel_rfl) (by kernel_rfl) (by kernel_rfl) (by kernel_rfl) (fun _ _ _ h => h) (Or.inl ⟨by rfl, ?_⟩) HSd.out ?_
        rotate_left
        · (intro wq hSw; have q0 : wq.cell? ⟨wr.heap.size, 5, none⟩ = some (.slice A1 n1 p1) := hSw; go_simp; all_goals (first | (with_reducible rfl) | (rw [if_pos (by omega)]; done) | (rw [if_neg (by omega)]; done) | skip))
        try simp only [List.getElem_toArray, List.getElem_cons_succ, List.getElem_cons_zero, Act.put, List.setIfInBounds_toArray, List.set_cons_zero, List.set_cons_succ]
        refine wpT_take (i := 1) (v := ?_) rfl (by kernel_rfl) (by kernel_rfl) (by kernel_rfl) (by kernel_rfl) (fun _ _ _ h => h) (Or.inl ⟨by rfl, ?_⟩) HSd.out ?_
        rotate_left
        · (intro wq hSw; have q0 : wq.cell? ⟨wr.heap.size, 5, none⟩ = some (.slice A1 n1 p1) := hSw; go_simp; all_goals (first | (with_reducible rfl) | (rw [if_pos (by omega)]; done) | (rw [if_neg (by omega)]; done) | skip))
        try simp only [List.getElem_toArray, List.getElem_cons_succ, List.getElem_cons_zero, Act.put, List.setIfInBounds_toArray, List.set_cons_zero, List.set_cons_succ]
        refine wpT_take (i := 3) (v := ?_) rfl (by kernel_rfl) (by kernel_rfl) (by kernel_rfl) (by kernel_rfl) (fun _ _ _ h => h) (Or.inl ⟨by rfl, ?_⟩) HSd.out ?_
        rotate_left
        · (intro wq hSw; have q0 : wq.cell? ⟨wr.heap.size, 5, none⟩ = some (.slice A1 n1 p1) := hSw; go_simp; all_goals (first | (with_reducible rfl) | (rw [if_pos (by omega)]; done) | (rw [if_neg (by omega)]; done) | skip))
        try simp only [List.getElem_toArray, List.getElem_cons_succ, List.getElem_cons_zero, Act.put, List.setIfInBounds_toArray, List.set_cons_zero, List.set_cons_succ]
        refine wpT_take (i := 4) (v := .slice (some ⟨b, so, none⟩) n2 c2) rfl (by kernel_rfl) (by kernel_rfl) (by kernel_rfl) (by kernel_rfl) (fun _ _ _ h => h) (Or.inl ⟨by rfl, ?_⟩) HSd.out ?_
        · intro wq hSw
          rcases HSL.out with ⟨h1, h2, h3, h4, h5⟩ | ⟨h1, h3, h4, h5⟩
          · subst h1 h2 h3 h4 h5
            go_simp
          · subst h3 h4 h5
            have h6 : 1 ≤ M := hM0
            go_simp
            all_goals (first | (intro hh; omega) | (rw [if_pos (by omega)]; done) | (rw [if_neg (by omega)]; done))
        try simp only [List.getElem_toArray, List.getElem_cons_succ, List.getElem_cons_zero, Act.put, List.setIfInBounds_toArray, List.set_cons_zero, List.set_cons_succ]
        have hbd : Below wr.heap.size wr wa.drew := hba.drew
        obtain ⟨-, -, hz1, xs1, hxs1, hsrc1⟩ := ((HK'.out.below hbd).keep (D' := (· < wa.heap.size)) (Same.refl _ _) (fun b _ h => h)).src
        have HX1 := Lib.hid hxs1
        have hlx1 : xs1.length = n1 * 6 := by have := hxs1.length; have := HN1.out; omega
        clear hxs1
        refine wpT_one (i := 2) rfl (by kernel_rfl) fun K hK => ?_
        refine step_app_any rt_exs rfl (.const (.slice none 0 0)) (.tmp 22) rfl wa.heap.size _ 0 [] rfl (World.ownsRow_nil _ _ _ _) A1 n1 p1 rfl xs1 hlx1 hz1 hsrc1 HX1.out.one (by unfold maxLen; omega) (by omega) (Nat.le_refl _) (fun v1 w2 o1 o2 => ?_)
        have hb2 : Below wa.heap.size wa w2 := (Below.refl _ _ : Below wa.heap.size wa wa).drew.trans o2
        simp only [Nat.zero_add, List.nil_append] at o1
        obtain ⟨A5, c5, rfl⟩ := own_form o1
        refine hK.out _ _ (fun _ => HSB.out w2 hb2) ?_
        clear hK K
        try simp only [List.getElem_toArray, List.getElem_cons_succ, List.getElem_cons_zero, Act.put, List.setIfInBounds_toArray, List.set_cons_zero, List.set_cons_succ]
        have hbr2 : Below wr.heap.size wr w2 := chain hba hb2
        obtain ⟨-, -, hz2, xs2, hxs2, hsrc2⟩ := ((HR.out.keep (D' := (· < wr.heap.size)) (Same.refl _ _) (fun b _ h => h)).below hbr2).src
        have HX2 := Lib.hid hxs2
        have hlx2 : xs2.length = n2 * 6 := by have := hxs2.length; have := HM.out; have := HN2.out; omega
        clear hxs2
        refine wpT_one (i := 5) rfl (by kernel_rfl) fun K hK => ?_
        refine step_app_any rt_exs rfl (.tmp 23) (.tmp 25) rfl wa.heap.size (.slice A5 n1 c5) n1 xs1 rfl o1 (some ⟨b, so, none⟩) n2 c2 rfl xs2 hlx2 hz2 hsrc2 HX2.out.one (by unfold maxLen; omega) (by omega) (by have := hb2.size; omega) (fun v3 w4 o3 o4 => ?_)
        have hb4 : Below wa.heap.size wa w4 := hb2.trans o4
        obtain ⟨A6, c6, rfl⟩ := own_form o3
        refine hK.out _ _ (fun _ => HSB.out w4 hb4) ?_
        clear hK K
        try simp only [List.getElem_toArray, List.getElem_cons_succ, List.getElem_cons_zero, Act.put, List.setIfInBounds_toArray, List.set_cons_zero, List.set_cons_succ]
        refine wpT_one (i := 6) rfl (by kernel_rfl) fun K hK => ?_
        go_simp
        refine hK.out _ _ (fun h => absurd h (by decide)) ?_
        clear hK K
        try simp only [List.getElem_toArray, List.getElem_cons_succ, List.getElem_cons_zero, Act.put, List.setIfInBounds_toArray, List.set_cons_zero, List.set_cons_succ]
        refine wpT_done (by kernel_rfl) ?_
        have hNX : Exs All w4 (.slice A6 (n1 + n2) c6) (u.kids ++ r) := by
          have hl : (u.kids ++ r).length = n1 + n2 := by rw [List.length_append]; have := HN1.out; have := HM.out; have := HN2.out; omega
          have h1 := HX1.out.keep (D' := All) (w' := w4) (fun b hD _ => hb4.block b hD) (fun _ _ _ => trivial)
          have h2 := HX2.out.keep (D' := All) (w' := w4) (fun b hD _ => o4.block b (by have := hba.size; have hD' : b < wr.heap.size := hD; omega)) (fun _ _ _ => trivial)
          rw [← hl] at o3 ⊢
          exact own_exs o3 (h1.append h2) (fun _ _ => trivial)
        have HNX := Lib.hid hNX
        have hbw4 := chain hbw (chain hba hb4)
        have hT4 := hTw.below (chain hba hb4)
        obtain ⟨z0, z1, z2, z3, z4, z5, z6, z7⟩ := HKB.out.keep hb4 HKB.out.lt
        have hb4' := hb4
        clear hNX o1 o3 o2 o4 hb2 hb4 hbr2 hz1 hz2 hsrc1 hsrc2 hlx1 hlx2 HX1 HX2 HSB HSd hbd k0 k1 k2 k3 k4 k5 k6 k7
        obtain ⟨Z, hZ⟩ : ∃ Z, n1 + n2 = Z := ⟨_, rfl⟩
        rw [hZ] at HNX ⊢
        have hZb : Z ≤ 1048576 * (k + 1 + 1) := by omega
        have hZl : (u.kids ++ r).length = Z := by rw [List.length_append]; have := HN1.out; have := HM.out; have := HN2.out; omega
        have HZL := Lib.hid hZl
        clear hZ
        clear hZl
        obtain ⟨uk, un, us, uvn, ux, uks⟩ := u
        simp only [Ex.kind_mk, Ex.name_mk, Ex.vs_mk, Ex.vn_mk, Ex.vt_mk, Ex.kids_mk] at z0 z1 z2 z3 z4 HNX HN1 HZL ⊢
        have HL1 : Hid (∀ E, exOne (.mk uk un us uvn ux uks) = E → E ≠ 9 → E ≠ 0 → ANS = E) := by
          intro E h1 h2 h3
          have := HL.out
          rw [show 60 - k = (59 - k) + 1 by omega, listE_cons, if_neg (by omega), if_neg (by omega)] at this
          rw [← this, h1]
        have HL2 : Hid ((exOne (.mk uk un us uvn ux uks) = 9 ∨ exOne (.mk uk un us uvn ux uks) = 0) → listE (60 - (k + 1)) (uks ++ r) = ANS) := by
          intro h
          have := HL.out
          rw [show 60 - k = (59 - k) + 1 by omega, listE_next h] at this
          rw [show 60 - (k + 1) = 59 - k by omega]
          exact this
        have HFIT : Hid (∀ t ∈ uks ++ r, ExFit 1048576 t) := by
          intro t ht
          rcases List.mem_append.1 ht with h | h
          · exact HFU.out.parts.2.2.2.2.2.2 t h
          · exact HFS.out t (List.mem_cons_of_mem _ h)
        have hul : un.length ≤ 1048576 := HFU.out.parts.2.1
        have huxl : ux.length ≤ 1048576 := HFU.out.parts.2.2.2.2.1
        obtain ⟨BR, hb⟩ : ∃ y, bare (.mk uk un us uvn ux uks) = y := ⟨_, rfl⟩
        have hbr : ∀ w : World, (binOp .eql 23 (.agg #[.int .i64 us, .int .i64 uvn, .string ⟨ux.toArray⟩]) (.agg #[.int .i64 0, .int .i64 0, .string ⟨#[]⟩])).run Tryd.prog w = .ok (.bool BR) w := fun w => (run_bare w us uvn ux).trans (congrArg (fun y => Result.ok (Value.bool y) w) hb)
        have HBR := Lib.hid hb
        clear hb
        by_cases k1 : uk = 1
        · subst k1
          by_cases hn : un = []
          · subst hn
            clear hul
            by_cases h0 : n1 = 0
            · subst h0
              obtain ⟨E, hE2⟩ : ∃ y, vchk us uvn ux = y := ⟨_, rfl⟩
              have hone : exOne (.mk 1 [] us uvn ux uks) = E := (exOne_1 HN1.out.symm).trans hE2
              have HE2 := Lib.hid hE2
              have hE9 : E ≠ 9 := by rw [← hE2]; unfold vchk; repeat' split
                                     all_goals decide
              have HO := Lib.hid hone
              clear hE2 hone
              go_wp2_with fail
              refine (refValue_any us uvn w4 ux (by omega) hT4).mono ?_
              rw [HE2.out]
              rintro e w5 ⟨rfl, hb5⟩
              obtain ⟨z0, z1, z2, z3, z4, z5, z6, z7⟩ := (HKB.out.keep hb4' HKB.out.lt).keep hb5 (Nat.lt_of_lt_of_le HKB.out.lt hb4'.size)
              by_cases hE0 : E = 0
              · have hEt : (E != 0) = false := by rw [bne_eq_false_iff_eq]; exact hE0
                have HOO := Lib.hid (HL2.out (Or.inr (HO.out.trans hE0)))
                clear hE0 hE9
                go_wp2_with fail
                go_roundw
                case rel => exact ⟨k + 1, uks ++ r, by omega, by go_num, HNX.out.below hb5, HFIT, by have := HZL.out; omega, chain hbw4 hb5, hT4.below hb5, HOO⟩
                case measure => simp [intOf]; omega
              · have hEt : (E != 0) = true := by rw [bne_iff_ne]; exact hE0
                have HE := Lib.hid (HL1.out E HO.out hE9 hE0)
                clear hE0 hE9
                go_wp2_with fail
                go_ret
                exact ⟨by rw [HE.out]; rfl, chain hbw4 hb5⟩
            · have hone : exOne (.mk 1 [] us uvn ux uks) = 1 := exOne_1k (fun h => h0 (HN1.out.trans h))
              have hpos : 0 < n1 := by omega
              clear h0
              have HE := Lib.hid (HL1.out 1 hone (by decide) (by decide))
              clear hone
              go_wp2_with fail
              go_ret
              exact ⟨by rw [HE.out]; rfl, hbw4⟩
          · have hone : exOne (.mk 1 un us uvn ux uks) = 1 := exOne_1n hn
            have hne : un.isEmpty = false := by simpa using hn
            clear hn
            have HE := Lib.hid (HL1.out 1 hone (by decide) (by decide))
            clear hone
            go_wp2_with fail
            go_ret
            exact ⟨by rw [HE.out]; rfl, hbw4⟩
        · by_cases k2 : uk = 2
          · subst k2
            cases BR with
            | false =>
              have hone : exOne (.mk 2 un us uvn ux uks) = 1 := exOne_2b HBR.out
              have HE := Lib.hid (HL1.out 1 hone (by decide) (by decide))
              clear hone
              go_wp2_with fail
              go_ret
              exact ⟨by rw [HE.out]; rfl, hbw4⟩
            | true =>
              obtain ⟨B, hB⟩ : ∃ y, isName un = y := ⟨_, rfl⟩
              have HB := Lib.hid hB
              clear hB
              go_wp2_with fail
              refine (refIsName_any un w4 (by omega)).mono ?_
              rw [HB.out]
              rintro e w5 ⟨rfl, hb5⟩
              obtain ⟨z0, z1, z2, z3, z4, z5, z6, z7⟩ := (HKB.out.keep hb4' HKB.out.lt).keep hb5 (Nat.lt_of_lt_of_le HKB.out.lt hb4'.size)
              cases B with
              | false =>
                have hone : exOne (.mk 2 un us uvn ux uks) = 1 := exOne_2n HB.out
                have HE := Lib.hid (HL1.out 1 hone (by decide) (by decide))
                clear hone
                go_wp2_with fail
                go_ret
                exact ⟨by rw [HE.out]; rfl, chain hbw4 hb5⟩
              | true =>
                by_cases h0 : n1 = 0
                · have HOO := Lib.hid (HL2.out (Or.inr (exOne_2 HBR.out (HN1.out.symm.trans h0) HB.out)))
                  subst h0
                  go_wp2_with fail
                  go_roundw
                  case rel => exact ⟨k + 1, uks ++ r, by omega, by go_num, HNX.out.below hb5, HFIT, by have := HZL.out; omega, chain hbw4 hb5, hT4.below hb5, HOO⟩
                  case measure => simp [intOf]; omega
                · have hone : exOne (.mk 2 un us uvn ux uks) = 1 := exOne_2k (fun h => h0 (HN1.out.trans h))
                  have hpos : 0 < n1 := by omega
                  clear h0
                  have HE := Lib.hid (HL1.out 1 hone (by decide) (by decide))
                  clear hone
                  go_wp2_with fail
                  go_ret
                  exact ⟨by rw [HE.out]; rfl, chain hbw4 hb5⟩
          · by_cases k3 : uk = 3
            · subst k3
              have e0 := Lib.hid (exOne_3 (n := un) (s := us) (v := uvn) (x := ux) (ks := uks))
              obtain ⟨B1, h1⟩ : ∃ y, (un == [110, 111, 116]) = y := ⟨_, rfl⟩
              obtain ⟨B2, h2⟩ : ∃ y, (un == [110, 101, 103]) = y := ⟨_, rfl⟩
              obtain ⟨B3, h3⟩ : ∃ y, (un == [35]) = y := ⟨_, rfl⟩
              have HLN : Hid (lone un = (B1 || (B2 || B3))) := by
                show lone un = _
                unfold lone
                rw [← h1, ← h2, ← h3]
                rw [Bool.eq_iff_iff]; simp
              cases BR with
              | false =>
                have hone := e0.out.trans (if_neg (fun h => absurd (HBR.out.symm.trans h.1) (by decide)))
                have HE := Lib.hid (HL1.out 1 hone (by decide) (by decide))
                clear hone
                cases B1 <;> cases B2 <;> cases B3
                all_goals
                  go_wp2_with fail
                  go_ret
                  exact ⟨by rw [HE.out]; rfl, hbw4⟩
              | true =>
                obtain ⟨S, hS⟩ : ∃ y, (B1 || (B2 || B3)) = y := ⟨_, rfl⟩
                rw [hS] at HLN
                cases S with
                | true =>
                  have hlv : level un = 0 := by
                    have := HLN.out
                    unfold lone at this
                    simp only [Bool.or_eq_true, decide_eq_true_eq] at this
                    rcases this with h | h | h <;> rw [h] <;> decide
                  have HLV := Lib.hid hlv
                  clear hlv
                  by_cases h1n : n1 = 1
                  · have HOO := Lib.hid (HL2.out (Or.inl (e0.out.trans (if_pos ⟨HBR.out, Or.inl ⟨HLN.out, HN1.out.symm.trans h1n⟩⟩))))
                    have hq : ((n1 : Int) == 1) = true := by rw [beq_iff_eq]; omega
                    clear h1n
                    cases B1 <;> cases B2 <;> cases B3 <;> try (exact absurd hS (by decide))
                    all_goals
                      clear hS
                      go_wp2_with fail
                      go_roundw
                      case rel => exact ⟨k + 1, uks ++ r, by omega, by go_num, HNX.out, HFIT, by have := HZL.out; omega, hbw4, hT4, HOO⟩
                      case measure => simp [intOf]; omega
                  · have hone := e0.out.trans (if_neg (fun h => h.2.elim (fun h => h1n (HN1.out.trans h.2)) (fun h => by have := HLV.out; omega)))
                    have HE := Lib.hid (HL1.out 1 hone (by decide) (by decide))
                    have hq : ((n1 : Int) == 1) = false := by rw [beq_eq_false_iff_ne]; omega
                    clear hone h1n
                    cases B1 <;> cases B2 <;> cases B3 <;> try (exact absurd hS (by decide))
                    all_goals
                      clear hS
                      go_wp2_with fail
                      refine (refLevel_any un w4).mono ?_
                      rw [HLV.out]
                      rintro e w5 ⟨rfl, hb5⟩
                      obtain ⟨z0, z1, z2, z3, z4, z5, z6, z7⟩ := (HKB.out.keep hb4' HKB.out.lt).keep hb5 (Nat.lt_of_lt_of_le HKB.out.lt hb4'.size)
                      go_wp2_with fail
                      go_ret
                      exact ⟨by rw [HE.out]; rfl, chain hbw4 hb5⟩
                | false =>
                  obtain ⟨V, hV⟩ : ∃ y, level un = y := ⟨_, rfl⟩
                  have hV0 : 0 ≤ V := by rw [← hV]; exact (level_lt un).1
                  have HV2 := Lib.hid hV
                  clear hV
                  have hBs : B1 = false ∧ B2 = false ∧ B3 = false := by cases B1 <;> cases B2 <;> cases B3 <;> simp_all
                  obtain ⟨rfl, rfl, rfl⟩ := hBs
                  clear hS
                  go_wp2_with fail
                  refine (refLevel_any un w4).mono ?_
                  rw [HV2.out]
                  rintro e w5 ⟨rfl, hb5⟩
                  obtain ⟨z0, z1, z2, z3, z4, z5, z6, z7⟩ := (HKB.out.keep hb4' HKB.out.lt).keep hb5 (Nat.lt_of_lt_of_le HKB.out.lt hb4'.size)
                  by_cases hv0 : V = 0
                  · have hone := e0.out.trans (if_neg (fun h => h.2.elim (fun h => absurd (HLN.out.symm.trans h.1) (by decide)) (fun h => by have := HV2.out; omega)))
                    have HE := Lib.hid (HL1.out 1 hone (by decide) (by decide))
                    have hvp : decide ((0 : Int) < V) = false := by simp; omega
                    clear hone hv0
                    go_wp2_with fail
                    go_ret
                    exact ⟨by rw [HE.out]; rfl, chain hbw4 hb5⟩
                  · have hvp : decide ((0 : Int) < V) = true := by simp; omega
                    by_cases h2n : n1 = 2
                    · have HOO := Lib.hid (HL2.out (Or.inl (e0.out.trans (if_pos ⟨HBR.out, Or.inr ⟨by have := HV2.out; omega, HN1.out.symm.trans h2n⟩⟩))))
                      have hq : ((n1 : Int) == 2) = true := by rw [beq_iff_eq]; omega
                      clear h2n hv0
                      go_wp2_with fail
                      go_roundw
                      case rel => exact ⟨k + 1, uks ++ r, by omega, by go_num, HNX.out.below hb5, HFIT, by have := HZL.out; omega, chain hbw4 hb5, hT4.below hb5, HOO⟩
                      case measure => simp [intOf]; omega
                    · have hone := e0.out.trans (if_neg (fun h => h.2.elim (fun h => absurd (HLN.out.symm.trans h.1) (by decide)) (fun h => h2n (HN1.out.trans h.2))))
                      have HE := Lib.hid (HL1.out 1 hone (by decide) (by decide))
                      have hq : ((n1 : Int) == 2) = false := by rw [beq_eq_false_iff_ne]; omega
                      clear hone h2n hv0
                      go_wp2_with fail
                      go_ret
                      exact ⟨by rw [HE.out]; rfl, chain hbw4 hb5⟩
            · have hone : exOne (.mk uk un us uvn ux uks) = 1 := exOne_o k1 k2 k3
              have q1 : (uk == 1) = false := by rw [beq_eq_false_iff_ne]; exact k1
              have q2 : (uk == 2) = false := by rw [beq_eq_false_iff_ne]; exact k2
              have q3 : (uk == 3) = false := by rw [beq_eq_false_iff_ne]; exact k3
              clear k1 k2 k3
              have HE := Lib.hid (HL1.out 1 hone (by decide) (by decide))
              clear hone
              go_wp2_with fail
              go_ret
              exact ⟨by rw [HE.out]; rfl, hbw4⟩
end Go.Proofs.YtmklodgcbldndaaDoor
namespace Go.Proofs.YtmklodgcbldndaaDoor
open Go.RowKit Go.Proofs

set_option maxRecDepth 100000
mutual
theorem sortE_err (ns : List Str) (ss : List Int) : ∀ (t : Ex), (sortE ns ss t).2 ≠ 0 → (sortE ns ss t).1 = 0
  | .mk k n s v x ks, h => by
    rw [sortE] at h ⊢
    split at h
    · exact absurd rfl h
    · rename_i h1
      rw [if_neg h1]
      split at h
      · rename_i h2
        rw [if_pos h2]
        cases hh : lookN ns ss n ns.length with
        | none => rfl
        | some q => rw [hh] at h; exact absurd rfl h
      · rename_i h2
        rw [if_neg h2]
        exact sortEs_err ns ss _ ks _ h
theorem sortEs_err (ns : List Str) (ss : List Int) (out : Int) : ∀ (ks : List Ex) (q : Option Int), (sortEs ns ss out ks q).2 ≠ 0 → (sortEs ns ss out ks q).1 = 0
  | [], q, h => by rw [sortEs] at h; exact absurd rfl h
  | k :: r, q, h => by
    rw [sortEs.eq_def] at h ⊢
    dsimp only at h ⊢
    by_cases h0 : (sortE ns ss k).2 ≠ 0
    · rw [if_pos h0]
    · rw [if_neg h0] at h ⊢
      cases q with
      | none => exact sortEs_err ns ss out r _ h
      | some v =>
        dsimp only at h ⊢
        by_cases h1 : (sortE ns ss k).1 = v
        · rw [if_pos h1] at h ⊢
          exact sortEs_err ns ss out r _ h
        · rw [if_neg h1]
end
set_option maxHeartbeats 1000000 in
theorem text_any (a b : Str) (e f : Int) (w : World) (h : (f ≠ 0 → e = f ∧ a = []) ∧ (f = 0 → e = 0 ∧ a = b)) :
    Calls Tryd.prog 11 #[.string ⟨a.toArray⟩, .int .i64 e, .string ⟨b.toArray⟩, .int .i64 f] w fun r w' => r = .returned (.bool true) ∧ w' = w := by
  by_cases hf : f = 0
  · obtain ⟨rfl, rfl⟩ := h.2 hf
    subst hf
    go_enter Tryd.func11, Tryd.ntmps11
    go_wp2_with fail
    go_ret
    exact ⟨by simp, rfl⟩
  · obtain ⟨rfl, rfl⟩ := h.1 hf
    have hb : (e != 0) = true := by rw [bne_iff_ne]; exact hf
    clear h hf
    go_enter Tryd.func11, Tryd.ntmps11
    go_wp2_with fail
    go_ret
    exact ⟨by simp, rfl⟩
set_option maxHeartbeats 1000000 in
theorem oneInt_any (a e b f : Int) (w : World) (h : (f ≠ 0 → e = f ∧ a = 0) ∧ (f = 0 → e = 0 ∧ a = b)) :
    Calls Tryd.prog 12 #[.int .i64 a, .int .i64 e, .int .i64 b, .int .i64 f] w fun r w' => r = .returned (.bool true) ∧ w' = w := by
  by_cases hf : f = 0
  · obtain ⟨rfl, rfl⟩ := h.2 hf
    subst hf
    go_enter Tryd.func12, Tryd.ntmps12
    go_wp2_with fail
    go_ret
    exact ⟨by simp, rfl⟩
  · obtain ⟨rfl, rfl⟩ := h.1 hf
    have hb : (e != 0) = true := by rw [bne_iff_ne]; exact hf
    clear h hf
    go_enter Tryd.func12, Tryd.ntmps12
    go_wp2_with fail
    go_ret
    exact ⟨by simp, rfl⟩
set_option maxHeartbeats 4000000 in
theorem esays_bad (t : Ex) (v nv sv : Value) (ns : List Str) (ss : List Int) (w : World) (hv : ExV All w v t) (hf : ExFit 1048576 t) (hn : IsStrs w nv ns) (hs : IntsD All w sv ss) (hnb : ns.length ≤ 1048576) (hsb : ss.length ≤ 1048576) (hT : Tabs w) (hP : PowTab w) (h0 : exErr t ≠ 0) :
    Calls Tryd.prog 3 #[v, nv, sv] w fun e w' => e = .returned (.bool true) ∧ Below w.heap.size w w' := by
  have HZ := Lib.hid hv
  obtain ⟨A, L, cap, rfl, hk⟩ := hv.one'
  have HN := Lib.hid hn
  have HS := Lib.hid hs
  obtain ⟨A1, c1, rfl, -, -⟩ := hn
  obtain ⟨A2, c2, rfl, -, -⟩ := hs
  obtain ⟨E, hE⟩ : ∃ E, exErr t = E := ⟨_, rfl⟩
  have HE := Lib.hid hE
  rw [hE] at h0
  have hb : (E == 0) = false := by rw [beq_eq_false_iff_ne]; exact h0
  have H0 := Lib.hid h0
  have HBE := hb
  clear hE h0 hb
  clear hk hv
  obtain ⟨W, hW⟩ : ∃ W, w.alloc (.cells #[.int .i64 t.kind, .string ⟨t.name.toArray⟩, .int .i64 t.vs, .int .i64 t.vn, .string ⟨t.vt.toArray⟩, .slice A L cap] 26) = W := ⟨_, rfl⟩
  have hx0 : Hid (ExBox W w.heap.size t (.slice A L cap)) := by subst hW; exact new_exval w t (.slice A L cap) 26
  have B0 : Below w.heap.size w W := by subst hW; exact (Below.refl _ _).alloc (Nat.le_refl _) _
  have HW := Lib.hid hW
  clear hW
  go_enter Tryd.func3, Tryd.ntmps3
  go_wp2_with fail
  try rw [HW.out]
  clear HW
  refine (refExpr_any t _ W (HZ.out.below B0) hf (hT.below B0)).mono ?_
  rw [HE.out]
  rintro e w1 ⟨rfl, hb⟩
  have hx1 : Hid (ExBox w1 w.heap.size t (.slice A L cap)) := hx0.out.keep hb hx0.out.lt
  have B1 := chain B0 hb
  clear hb hx0 B0
  obtain ⟨b0, b1, b2, b3, b4, b5, b6, b7⟩ := hx1.out
  go_wp2_with fail
  refine (eWrite_bad t (.agg #[.int .i64 t.kind, .string ⟨t.name.toArray⟩, .int .i64 t.vs, .int .i64 t.vn, .string ⟨t.vt.toArray⟩, .slice A L cap]) w1 (HZ.out.below B1) hf (hT.below B1) E HE.out H0.out).mono ?_
  rintro e w2 ⟨rfl, hb⟩
  have hx2 : Hid (ExBox w2 w.heap.size t (.slice A L cap)) := hx1.out.keep hb hx1.out.lt
  have B2 := chain B1 hb
  clear hb hx1 B1
  clear b0 b1 b2 b3 b4 b5 b6 b7
  obtain ⟨b0, b1, b2, b3, b4, b5, b6, b7⟩ := hx2.out
  go_wp2_with fail
  refine (eSort_bad t (.agg #[.int .i64 t.kind, .string ⟨t.name.toArray⟩, .int .i64 t.vs, .int .i64 t.vn, .string ⟨t.vt.toArray⟩, .slice A L cap]) (.slice A1 ns.length c1) (.slice A2 ss.length c2) ns ss w2 (HZ.out.below B2) hf (hT.below B2) (HN.out.keep B2) (HS.out.below B2) E HE.out H0.out).mono ?_
  rintro e w3 ⟨rfl, hb⟩
  have hx3 : Hid (ExBox w3 w.heap.size t (.slice A L cap)) := hx2.out.keep hb hx2.out.lt
  have B3 := chain B2 hb
  clear hb hx2 B2
  clear b0 b1 b2 b3 b4 b5 b6 b7
  obtain ⟨b0, b1, b2, b3, b4, b5, b6, b7⟩ := hx3.out
  go_wp2_with fail
  refine (eCheck_any t _ w3 (HZ.out.below B3) hf (hT.below B3)).mono ?_
  rw [HE.out]
  rintro e w4 ⟨rfl, hb⟩
  have hx4 : Hid (ExBox w4 w.heap.size t (.slice A L cap)) := hx3.out.keep hb hx3.out.lt
  have B4 := chain B3 hb
  clear hb hx3 B3
  clear b0 b1 b2 b3 b4 b5 b6 b7
  obtain ⟨b0, b1, b2, b3, b4, b5, b6, b7⟩ := hx4.out
  go_wp2_with fail
  refine (text_any [] [] E E _ ⟨fun _ => ⟨rfl, rfl⟩, fun h => absurd h H0.out⟩).mono ?_
  rintro e w ⟨rfl, rfl⟩
  go_wp2_with fail
  refine (oneInt_any 0 E 0 E _ ⟨fun _ => ⟨rfl, rfl⟩, fun h => absurd h H0.out⟩).mono ?_
  rintro e w ⟨rfl, rfl⟩
  go_wp2_with fail
  go_ret
  exact ⟨rfl, B4⟩
set_option maxHeartbeats 4000000 in
theorem esays_len (t : Ex) (v nv sv : Value) (ns : List Str) (ss : List Int) (w : World) (hv : ExV All w v t) (hf : ExFit 1048576 t) (hn : IsStrs w nv ns) (hs : IntsD All w sv ss) (hnb : ns.length ≤ 1048576) (hsb : ss.length ≤ 1048576) (hT : Tabs w) (hP : PowTab w) (h0 : exErr t = 0) (hl : ns.length ≠ ss.length) :
    Calls Tryd.prog 3 #[v, nv, sv] w fun e w' => e = .returned (.bool true) ∧ Below w.heap.size w w' := by
  have HZ := Lib.hid hv
  obtain ⟨A, L, cap, rfl, hk⟩ := hv.one'
  have HN := Lib.hid hn
  have HS := Lib.hid hs
  obtain ⟨A1, c1, rfl, -, -⟩ := hn
  obtain ⟨A2, c2, rfl, -, -⟩ := hs
  have HE := Lib.hid h0
  have HG := Lib.hid (goodE_of t 60 h0)
  have HPP := Lib.hid (eparts_ok h0)
  have HL := Lib.hid hl
  have hlb : ((ns.length : Int) == (ss.length : Int)) = false := by rw [beq_eq_false_iff_ne]; omega
  clear h0 hl
  clear hk hv
  obtain ⟨W, hW⟩ : ∃ W, w.alloc (.cells #[.int .i64 t.kind, .string ⟨t.name.toArray⟩, .int .i64 t.vs, .int .i64 t.vn, .string ⟨t.vt.toArray⟩, .slice A L cap] 26) = W := ⟨_, rfl⟩
  have hx0 : Hid (ExBox W w.heap.size t (.slice A L cap)) := by subst hW; exact new_exval w t (.slice A L cap) 26
  have B0 : Below w.heap.size w W := by subst hW; exact (Below.refl _ _).alloc (Nat.le_refl _) _
  have HW := Lib.hid hW
  clear hW
  go_enter Tryd.func3, Tryd.ntmps3
  go_wp2_with fail
  try rw [HW.out]
  clear HW
  refine (refExpr_any t _ W (HZ.out.below B0) hf (hT.below B0)).mono ?_
  rw [HE.out]
  rintro e w1 ⟨rfl, hb⟩
  have hx1 : Hid (ExBox w1 w.heap.size t (.slice A L cap)) := hx0.out.keep hb hx0.out.lt
  have B1 := chain B0 hb
  clear hb hx0 B0
  obtain ⟨b0, b1, b2, b3, b4, b5, b6, b7⟩ := hx1.out
  go_wp2_with fail
  refine (eWrite_ok t (.agg #[.int .i64 t.kind, .string ⟨t.name.toArray⟩, .int .i64 t.vs, .int .i64 t.vn, .string ⟨t.vt.toArray⟩, .slice A L cap]) w1 (HZ.out.below B1) hf (hT.below B1) (hP.below B1) HE.out).mono ?_
  rintro e w2 ⟨rfl, hb⟩
  have hx2 : Hid (ExBox w2 w.heap.size t (.slice A L cap)) := hx1.out.keep hb hx1.out.lt
  have B2 := chain B1 hb
  clear hb hx1 B1
  clear b0 b1 b2 b3 b4 b5 b6 b7
  obtain ⟨b0, b1, b2, b3, b4, b5, b6, b7⟩ := hx2.out
  go_wp2_with fail
  refine (eSort_len t (.agg #[.int .i64 t.kind, .string ⟨t.name.toArray⟩, .int .i64 t.vs, .int .i64 t.vn, .string ⟨t.vt.toArray⟩, .slice A L cap]) (.slice A1 ns.length c1) (.slice A2 ss.length c2) ns ss w2 (HZ.out.below B2) hf (hT.below B2) (HN.out.keep B2) (HS.out.below B2) HE.out HL.out).mono ?_
  rintro e w3 ⟨rfl, hb⟩
  have hx3 : Hid (ExBox w3 w.heap.size t (.slice A L cap)) := hx2.out.keep hb hx2.out.lt
  have B3 := chain B2 hb
  clear hb hx2 B2
  clear b0 b1 b2 b3 b4 b5 b6 b7
  obtain ⟨b0, b1, b2, b3, b4, b5, b6, b7⟩ := hx3.out
  go_wp2_with fail
  have hxt := xtext_any (eparts t) t (.agg #[.int .i64 t.kind, .string ⟨t.name.toArray⟩, .int .i64 t.vs, .int .i64 t.vn, .string ⟨t.vt.toArray⟩, .slice A L cap]) w3 (Nat.le_refl _) (by have := HPP.out; omega) (HZ.out.below B3) hf HG.out
  unfold XSays at hxt
  refine (hxt).mono ?_
  clear hxt
  rintro e w4 ⟨rfl, hb⟩
  have hx4 : Hid (ExBox w4 w.heap.size t (.slice A L cap)) := hx3.out.keep hb hx3.out.lt
  have B4 := chain B3 hb
  clear hb hx3 B3
  clear b0 b1 b2 b3 b4 b5 b6 b7
  obtain ⟨b0, b1, b2, b3, b4, b5, b6, b7⟩ := hx4.out
  go_wp2_with fail
  refine (eCheck_any t _ w4 (HZ.out.below B4) hf (hT.below B4)).mono ?_
  rw [HE.out]
  rintro e w5 ⟨rfl, hb⟩
  have hx5 : Hid (ExBox w5 w.heap.size t (.slice A L cap)) := hx4.out.keep hb hx4.out.lt
  have B5 := chain B4 hb
  clear hb hx4 B4
  clear b0 b1 b2 b3 b4 b5 b6 b7
  obtain ⟨b0, b1, b2, b3, b4, b5, b6, b7⟩ := hx5.out
  go_wp2_with fail
  refine (text_any (txtE t) (txtE t) 0 0 _ ⟨fun h => absurd rfl h, fun _ => ⟨rfl, rfl⟩⟩).mono ?_
  rintro e w ⟨rfl, rfl⟩
  go_wp2_with fail
  refine (oneInt_any 0 1 0 1 _ ⟨fun _ => ⟨rfl, rfl⟩, fun h => absurd h (by decide)⟩).mono ?_
  rintro e w ⟨rfl, rfl⟩
  go_wp2_with fail
  go_ret
  exact ⟨rfl, B5⟩
set_option maxHeartbeats 4000000 in
theorem esays_ok (t : Ex) (v nv sv : Value) (ns : List Str) (ss : List Int) (w : World) (hv : ExV All w v t) (hf : ExFit 1048576 t) (hn : IsStrs w nv ns) (hs : IntsD All w sv ss) (hnb : ns.length ≤ 1048576) (hsb : ss.length ≤ 1048576) (hT : Tabs w) (hP : PowTab w) (h0 : exErr t = 0) (hl : ns.length = ss.length) :
    Calls Tryd.prog 3 #[v, nv, sv] w fun e w' => e = .returned (.bool true) ∧ Below w.heap.size w w' := by
  have HZ := Lib.hid hv
  obtain ⟨A, L, cap, rfl, hk⟩ := hv.one'
  have HN := Lib.hid hn
  have HS := Lib.hid hs
  obtain ⟨A1, c1, rfl, -, -⟩ := hn
  obtain ⟨A2, c2, rfl, -, -⟩ := hs
  have HE := Lib.hid h0
  have HG := Lib.hid (goodE_of t 60 h0)
  have HPP := Lib.hid (eparts_ok h0)
  have HENV : Hid (Env w (.slice A1 ns.length c1) (.slice A2 ss.length c2) ns ss) := ⟨HN.out, HS.out, hl.symm, hnb⟩
  have hlb : ((ns.length : Int) == (ss.length : Int)) = true := by rw [beq_iff_eq]; omega
  clear h0 hl
  clear hk hv
  obtain ⟨W, hW⟩ : ∃ W, w.alloc (.cells #[.int .i64 t.kind, .string ⟨t.name.toArray⟩, .int .i64 t.vs, .int .i64 t.vn, .string ⟨t.vt.toArray⟩, .slice A L cap] 26) = W := ⟨_, rfl⟩
  have hx0 : Hid (ExBox W w.heap.size t (.slice A L cap)) := by subst hW; exact new_exval w t (.slice A L cap) 26
  have B0 : Below w.heap.size w W := by subst hW; exact (Below.refl _ _).alloc (Nat.le_refl _) _
  have HW := Lib.hid hW
  clear hW
  go_enter Tryd.func3, Tryd.ntmps3
  go_wp2_with fail
  try rw [HW.out]
  clear HW
  refine (refExpr_any t _ W (HZ.out.below B0) hf (hT.below B0)).mono ?_
  rw [HE.out]
  rintro e w1 ⟨rfl, hb⟩
  have hx1 : Hid (ExBox w1 w.heap.size t (.slice A L cap)) := hx0.out.keep hb hx0.out.lt
  have B1 := chain B0 hb
  clear hb hx0 B0
  obtain ⟨b0, b1, b2, b3, b4, b5, b6, b7⟩ := hx1.out
  go_wp2_with fail
  refine (eWrite_ok t (.agg #[.int .i64 t.kind, .string ⟨t.name.toArray⟩, .int .i64 t.vs, .int .i64 t.vn, .string ⟨t.vt.toArray⟩, .slice A L cap]) w1 (HZ.out.below B1) hf (hT.below B1) (hP.below B1) HE.out).mono ?_
  rintro e w2 ⟨rfl, hb⟩
  have hx2 : Hid (ExBox w2 w.heap.size t (.slice A L cap)) := hx1.out.keep hb hx1.out.lt
  have B2 := chain B1 hb
  clear hb hx1 B1
  clear b0 b1 b2 b3 b4 b5 b6 b7
  obtain ⟨b0, b1, b2, b3, b4, b5, b6, b7⟩ := hx2.out
  go_wp2_with fail
  refine (eSort_ok t (.agg #[.int .i64 t.kind, .string ⟨t.name.toArray⟩, .int .i64 t.vs, .int .i64 t.vn, .string ⟨t.vt.toArray⟩, .slice A L cap]) (.slice A1 ns.length c1) (.slice A2 ss.length c2) ns ss w2 (HZ.out.below B2) hf (hT.below B2) (HENV.out.below B2) HE.out).mono ?_
  rintro e w3 ⟨rfl, hb⟩
  have hx3 : Hid (ExBox w3 w.heap.size t (.slice A L cap)) := hx2.out.keep hb hx2.out.lt
  have B3 := chain B2 hb
  clear hb hx2 B2
  clear b0 b1 b2 b3 b4 b5 b6 b7
  obtain ⟨b0, b1, b2, b3, b4, b5, b6, b7⟩ := hx3.out
  go_wp2_with fail
  have hxt := xtext_any (eparts t) t (.agg #[.int .i64 t.kind, .string ⟨t.name.toArray⟩, .int .i64 t.vs, .int .i64 t.vn, .string ⟨t.vt.toArray⟩, .slice A L cap]) w3 (Nat.le_refl _) (by have := HPP.out; omega) (HZ.out.below B3) hf HG.out
  unfold XSays at hxt
  refine (hxt).mono ?_
  clear hxt
  rintro e w4 ⟨rfl, hb⟩
  have hx4 : Hid (ExBox w4 w.heap.size t (.slice A L cap)) := hx3.out.keep hb hx3.out.lt
  have B4 := chain B3 hb
  clear hb hx3 B3
  clear b0 b1 b2 b3 b4 b5 b6 b7
  obtain ⟨b0, b1, b2, b3, b4, b5, b6, b7⟩ := hx4.out
  go_wp2_with fail
  have hso := sof_any (eparts t) ns ss (.slice A1 ns.length c1) (.slice A2 ss.length c2) t (.agg #[.int .i64 t.kind, .string ⟨t.name.toArray⟩, .int .i64 t.vs, .int .i64 t.vn, .string ⟨t.vt.toArray⟩, .slice A L cap]) w4 (Nat.le_refl _) (HZ.out.below B4) hf HG.out (HENV.out.below B4)
  unfold SortSays at hso
  refine (hso).mono ?_
  clear hso
  rintro e w5 ⟨rfl, hb⟩
  have hx5 : Hid (ExBox w5 w.heap.size t (.slice A L cap)) := hx4.out.keep hb hx4.out.lt
  have B5 := chain B4 hb
  clear hb hx4 B4
  clear b0 b1 b2 b3 b4 b5 b6 b7
  obtain ⟨b0, b1, b2, b3, b4, b5, b6, b7⟩ := hx5.out
  go_wp2_with fail
  have hqe := sortE_err ns ss t
  generalize sortE ns ss t = Q at *
  have HQ := Lib.hid hqe
  clear hqe
  refine (eCheck_any t _ w5 (HZ.out.below B5) hf (hT.below B5)).mono ?_
  rw [HE.out]
  rintro e w6 ⟨rfl, hb⟩
  have hx6 : Hid (ExBox w6 w.heap.size t (.slice A L cap)) := hx5.out.keep hb hx5.out.lt
  have B6 := chain B5 hb
  clear hb hx5 B5
  clear b0 b1 b2 b3 b4 b5 b6 b7
  obtain ⟨b0, b1, b2, b3, b4, b5, b6, b7⟩ := hx6.out
  go_wp2_with fail
  refine (text_any (txtE t) (txtE t) 0 0 _ ⟨fun h => absurd rfl h, fun _ => ⟨rfl, rfl⟩⟩).mono ?_
  rintro e w ⟨rfl, rfl⟩
  go_wp2_with fail
  refine (oneInt_any Q.1 Q.2 Q.1 Q.2 _ ⟨fun h => ⟨rfl, HQ.out h⟩, fun h => ⟨h, rfl⟩⟩).mono ?_
  rintro e w ⟨rfl, rfl⟩
  go_wp2_with fail
  go_ret
  exact ⟨rfl, B6⟩
theorem esays_any (t : Ex) (v nv sv : Value) (ns : List Str) (ss : List Int) (w : World) (hv : ExV All w v t) (hf : ExFit 1048576 t) (hn : IsStrs w nv ns) (hs : IntsD All w sv ss) (hnb : ns.length ≤ 1048576) (hsb : ss.length ≤ 1048576) (hT : Tabs w) (hP : PowTab w) :
    Calls Tryd.prog 3 #[v, nv, sv] w fun e w' => e = .returned (.bool true) ∧ Below w.heap.size w w' := by
  by_cases h0 : exErr t = 0
  · by_cases hl : ns.length = ss.length
    · exact esays_ok t v nv sv ns ss w hv hf hn hs hnb hsb hT hP h0 hl
    · exact esays_len t v nv sv ns ss w hv hf hn hs hnb hsb hT hP h0 hl
  · exact esays_bad t v nv sv ns ss w hv hf hn hs hnb hsb hT hP h0
end Go.Proofs.YtmklodgcbldndaaDoor
namespace Go.Proofs.YtmklodgcbldndaaDoor
open Go.ChangeShapes Go.WideShapes Go.ChangeAt Go.RowKit Go.Joins Go.Lib

section
variable {H : Type} {enc : TypeId × Value → H} {P : Program}
theorem trodAll_below (hl : laidOutB P = true) {W W' : World} (hb : Below W.heap.size W W') : ∀ {ts : List TypeId} {vs : List Value} {ds : List (DataW H)} {ps : List MemPlace}, (∀ t ∈ ts, P.readableRec t = true ∧ t < P.types.size) →
    DataW.TrodAll enc P W 0 (fun _ => true) true ts vs ds ps → (∀ x ∈ ps, x.block < W.heap.size) → DataW.TrodAll enc P W' 0 (fun b => decide (b < W.heap.size)) true ts vs ds ps := by
  intro ts
  induction ts with
  | nil =>
    intro vs ds ps _ h _
    match vs, ds, h with
    | [], [], h => exact h
  | cons t ts ih =>
    intro vs ds ps hr h hlt
    cases vs with
    | nil => cases h
    | cons v vs =>
      cases ds with
      | nil => cases h
      | cons d ds =>
        obtain ⟨p, q, h1, h2, hp⟩ := h
        subst hp
        exact ⟨p, q, Below.trod hl (hr t (by simp)).1 (hr t (by simp)).2 h1 hb (fun x hx => hlt x (by simp [hx])), ih (fun t ht => hr t (by simp [ht])) h2 (fun x hx => hlt x (by simp [hx])), rfl⟩

/-- The row's own words behind a law's walk. -/
theorem law_post {f : FuncId} {fn : Func} {s : ChangeSpec} {W : World} {args : Array Value} {ds gs : List (DataW H)} {before : List MemPlace} {tb : TypeId} (hl : laidOutB P = true) (hr : (fn.params.toList.all fun t => P.readableRec t && decide (t < P.types.size)) = true)
    (hvars : s.vars = []) (hres : fn.resultTypes = #[tb]) (htb : P.underlying tb = some .bool)
    (hW : DataW.Whole enc P fn.params.toList s.vars false W args.toList ds gs before) (hspec : s.fn H ds = { results := [.lit (.bool true)], args := ds })
    (walk : Calls P f args W fun e w' => e = .returned (.bool true) ∧ Below W.heap.size W w') :
    Calls P f args W fun e W' => ∃ v, e = .returned v ∧ s.post enc P fn false true false false W args v W' := by
  refine walk.mono fun e W' ⟨he, hb⟩ => ?_
  subst he
  have hlt : ∀ p ∈ before, p.block < W.heap.size := fun p hp => hW.lt p hp
  have hW' := hW
  obtain ⟨p, q, hA, hV, rfl, hz, hn⟩ := hW'
  rw [hvars] at hV
  have hgs : gs = [] ∧ q = [] := by
    cases gs with
    | nil => exact ⟨rfl, hV⟩
    | cons a b => cases hV
  obtain ⟨rfl, rfl⟩ := hgs
  have hr' : ∀ t ∈ fn.params.toList, P.readableRec t = true ∧ t < P.types.size := by
    intro t ht
    have := List.all_eq_true.1 hr t ht
    simpa using this
  refine ⟨.bool true, rfl, ds, [], p ++ [], [], p, [], hW, ?_, ?_, ?_, hb.frame _, fun h => by cases h⟩
  · rw [List.append_nil, hspec, hres]
    exact trodAll_mk1 (shut_bool htb _)
  · rw [List.append_nil, hspec]
    exact trodAll_below hl hb hr' hA (fun x hx => hlt x (by simp [hx]))
  · rw [hvars, List.append_nil, hspec]
    rfl
end

theorem own : ownKnob Tryd.prog.godebug = none := by kernel_rfl
theorem laidOut : laidOutB Tryd.prog = true := by kernel_rfl

theorem u8types : U8Types Tryd.prog Tryd.lays196_ren := U8Types.of196 Tryd.lays196
theorem u8extra : U8Extra Tryd.prog Tryd.lays196_ren := ⟨by kernel_rfl, by kernel_rfl, by kernel_rfl, by kernel_rfl, by kernel_rfl, by kernel_rfl, by kernel_rfl⟩
/-- utf8's tables, out of a list that names them. -/
theorem tabs_of {laid : List (String × DataW Unit)} {W : World} (h : laidMet Tryd.prog laid W) (h1 : ("unicode/utf8.first", Go.Pinned.utf8First) ∈ laid) (h2 : ("unicode/utf8.acceptRanges", acceptData) ∈ laid) : Tabs W :=
  utf8Tabs_of_readsT u8types u8extra (by rw [← Go.Pinned.utf8First_eq]; exact laidMet.reads h h1) (laidMet.reads h h2)
end Go.Proofs.YtmklodgcbldndaaDoor
namespace Go.Proofs.YtmklodgcbldndaaDoor
open Go.ChangeShapes Go.WideShapes Go.ChangeAt Go.RowKit Go.Joins Go.Lib Go.Deep

set_option maxRecDepth 100000
theorem cellsStr : Tryd.prog.cellsOf 9 = 1 := by kernel_rfl
theorem cellsInt : Tryd.prog.cellsOf 3 = 1 := by kernel_rfl
theorem cellsStrs : Tryd.prog.cellsOf 27 = 1 := by kernel_rfl
section
variable {H : Type} {enc : TypeId × Value → H} {P : Program} {w : World} {base : Nat} {spare : Nat → Bool} {held : Bool}
/-- A struct of fields of one cell each: every cell reads, with less fuel. -/
theorem trod_fields {t : TypeId} {fs : Array Field} {fuel : Nat} {cs : List Value} {x : DataW H × List MemPlace} (ht : P.underlying t = some (.struct fs)) (hone : oneCellFields P fs = true) (hC : P.cellsOf t = fs.size) (h : DataW.trod enc P w base spare held fuel t cs = some x) :
    ∃ n, fuel = n + 1 ∧ cs.length = fs.size ∧ ∀ (i : Nat) (f : Field), fs[i]? = some f → ∃ c y, cs[i]? = some c ∧ DataW.trod enc P w base spare held n f.type [c] = some y := by
  obtain ⟨xs, n, rfl, -, hl, hlen, hf⟩ := DataW.trod_struct ht h
  refine ⟨n, rfl, by rw [hl, hC], fun i f hi => ?_⟩
  obtain ⟨k1, k2⟩ := hone_of hone i f hi
  have hi' : i < fs.size := (Array.getElem?_eq_some_iff.1 hi).1
  have := hf i f hi
  rw [k1, k2, take1_drop cs i (.bool false) (by omega), List.getElem?_eq_getElem (by omega)] at this
  exact ⟨_, _, by rw [List.getElem?_eq_getElem (by omega)], by rw [← this, List.getD, List.getElem?_eq_getElem (by omega)]; rfl⟩
end
section
variable {H : Type} {enc : TypeId × Value → H} {W : World}
theorem open_texts {fuel : Nat} {cs : List Value} {x : DataW H × List MemPlace} (h : DataW.trod enc Tryd.prog W 0 (fun _ => true) true fuel 27 cs = some x) :
    ∃ (v : Value) (l : List Str), cs = [v] ∧ IsStrs W v l ∧ l.length ≤ maxLen ∧ ∀ s ∈ l, s.length ≤ maxLen := by
  rcases open_strs Tryd.underlying27 Tryd.underlying9 cellsStr h with ⟨rfl, -⟩ | ⟨a, len, cap, m, Sx, rfl, -, hl, hm, hmm, -, hx⟩
  · exact ⟨_, [], rfl, ⟨none, 0, rfl, Nat.le_refl _, fun h => by simp at h⟩, by simp, by simp⟩
  · have hmc : m = cap := by simpa using hmm
    refine ⟨_, (List.range len).map fun i => (Sx i).data.toList, rfl, ⟨some a, cap, by simp, by simpa using hl, fun h0 => ?_⟩, by simp; omega, ?_⟩
    · simp only [List.length_map, List.length_range] at h0
      obtain ⟨b, off, spot⟩ := a
      have hspot : spot = none := by simpa [Addr.add] using World.cell?_spot (hx 0 (by omega)).1
      subst hspot
      refine ⟨b, off, rfl, fun i s hi => ?_⟩
      simp only [List.getElem?_map, Option.map_eq_some_iff] at hi
      obtain ⟨j, hj, rfl⟩ := hi
      obtain ⟨hj1, hj2⟩ := List.getElem?_eq_some_iff.1 hj
      simp only [List.length_range, List.getElem_range] at hj1 hj2
      subst hj2
      have := (hx i (by omega)).1
      rw [Go.WideShapes.add_plain] at this
      rw [this, mk_data]
    · intro s hs
      obtain ⟨i, hi, rfl⟩ := List.mem_map.1 hs
      have hi' := List.mem_range.1 hi
      have := (hx i (by omega)).2
      rw [size_eq] at this
      exact this
end
end Go.Proofs.YtmklodgcbldndaaDoor
namespace Go.Proofs.YtmklodgcbldndaaDoor
set_option maxRecDepth 100000
open Go.ChangeShapes Go.WideShapes Go.ChangeAt Go.RowKit Go.Joins Go.Lib Go.Deep

section
variable {H : Type}
theorem bulkAll_le {ds : List (DataW H)} {d : DataW H} (h : d ∈ ds) : Rows.uptoBulk d ≤ Rows.uptoBulkAll ds := by
  induction ds with
  | nil => simp at h
  | cons a r ih =>
    simp only [Rows.uptoBulkAll]
    rcases List.mem_cons.1 h with rfl | h
    · omega
    · have := ih h; omega
theorem bulk_pos (d : DataW H) : 1 ≤ Rows.uptoBulk d := by
  cases d with
  | lit l => cases l <;> simp [Rows.uptoBulk]
  | _ => simp [Rows.uptoBulk]
theorem bulkAll_length (ds : List (DataW H)) : ds.length ≤ Rows.uptoBulkAll ds := by
  induction ds with
  | nil => simp
  | cons a r ih => simp only [Rows.uptoBulkAll, List.length_cons]; have := bulk_pos a; omega
end
section
variable {H : Type} {enc : TypeId × Value → H} {P : Program} {w : World} {base : Nat} {spare : Nat → Bool} {held : Bool}
theorem trod_fields_b {t : TypeId} {fs : Array Field} {fuel : Nat} {cs : List Value} {x : DataW H × List MemPlace} (ht : P.underlying t = some (.struct fs)) (hone : oneCellFields P fs = true) (hC : P.cellsOf t = fs.size) (h : DataW.trod enc P w base spare held fuel t cs = some x) :
    ∃ n, fuel = n + 1 ∧ cs.length = fs.size ∧ ∀ (i : Nat) (f : Field), fs[i]? = some f → ∃ c y, cs[i]? = some c ∧ DataW.trod enc P w base spare held n f.type [c] = some y ∧ Rows.uptoBulk y.1 ≤ Rows.uptoBulk x.1 := by
  obtain ⟨xs, n, rfl, rfl, hl, hlen, hf⟩ := DataW.trod_struct ht h
  refine ⟨n, rfl, by rw [hl, hC], fun i f hi => ?_⟩
  obtain ⟨k1, k2⟩ := hone_of hone i f hi
  have hi' : i < fs.size := (Array.getElem?_eq_some_iff.1 hi).1
  have := hf i f hi
  rw [k1, k2, take1_drop cs i (.bool false) (by omega), List.getElem?_eq_getElem (by omega)] at this
  refine ⟨_, _, by rw [List.getElem?_eq_getElem (by omega)], by rw [← this, List.getD, List.getElem?_eq_getElem (by omega)]; rfl, ?_⟩
  simp only [Rows.uptoBulk]
  exact Nat.le_succ_of_le (bulkAll_le (List.mem_map_of_mem (List.getElem_mem _)))
end
section
variable {H : Type} {enc : TypeId × Value → H} {W : World}
/-- A list of words that came in. -/
theorem open_texts_b {fuel : Nat} {cs : List Value} {x : DataW H × List MemPlace} (h : DataW.trod enc Tryd.prog W 0 (fun _ => true) true fuel 27 cs = some x) :
    ∃ (v : Value) (l : List Str), cs = [v] ∧ IsStrs W v l ∧ l.length ≤ Rows.uptoBulk x.1 ∧ ∀ s ∈ l, s.length ≤ Rows.uptoBulk x.1 := by
  rcases open_strs Tryd.underlying27 Tryd.underlying9 cellsStr h with ⟨rfl, -⟩ | ⟨a, len, cap, m, Sx, rfl, -, hl, hm, hmm, rfl, hx⟩
  · exact ⟨_, [], rfl, ⟨none, 0, rfl, Nat.le_refl _, fun h => by simp at h⟩, by simp, by simp⟩
  · have hmc : m = cap := by simpa using hmm
    have hk : ∀ d ∈ ((List.range len).map fun i => (DataW.lit (.string (Sx i).data.toList) : DataW H)), Rows.uptoBulk d ≤ Rows.uptoBulkAll ((List.range len).map fun i => (DataW.lit (.string (Sx i).data.toList) : DataW H)) := fun d hd => bulkAll_le hd
    have hn := bulkAll_length ((List.range len).map fun i => (DataW.lit (.string (Sx i).data.toList) : DataW H))
    simp only [List.length_map, List.length_range] at hn
    refine ⟨_, (List.range len).map fun i => (Sx i).data.toList, rfl, ⟨some a, cap, by simp, by simpa using hl, fun h0 => ?_⟩, by simp only [List.length_map, List.length_range, Rows.uptoBulk]; omega, ?_⟩
    · simp only [List.length_map, List.length_range] at h0
      obtain ⟨b, off, spot⟩ := a
      have hspot : spot = none := by simpa [Addr.add] using World.cell?_spot (hx 0 (by omega)).1
      subst hspot
      refine ⟨b, off, rfl, fun i s hi => ?_⟩
      simp only [List.getElem?_map, Option.map_eq_some_iff] at hi
      obtain ⟨j, hj, rfl⟩ := hi
      obtain ⟨hj1, hj2⟩ := List.getElem?_eq_some_iff.1 hj
      simp only [List.length_range, List.getElem_range] at hj1 hj2
      subst hj2
      have := (hx i (by omega)).1
      rw [Go.WideShapes.add_plain] at this
      rw [this, mk_data]
    · intro s hs
      obtain ⟨i, hi, rfl⟩ := List.mem_map.1 hs
      have := hk _ (List.mem_map_of_mem hi)
      simp only [Rows.uptoBulk] at this ⊢
      omega
theorem open_words {r : Reach} {b0 : Nat} {v : Value} {d : DataW H} {p : List MemPlace} (hv : Value.okWide Tryd.prog W r b0 27 v) (h : DataW.Trod enc Tryd.prog W 0 (fun _ => true) true 27 v d p) :
    ∃ l : List Str, IsStrs W v l ∧ l.length ≤ maxLen ∧ ∀ s ∈ l, s.length ≤ maxLen := by
  obtain ⟨a, n, c, rfl⟩ := okWide_slice Tryd.underlying27 hv
  obtain ⟨fuel, h⟩ := h
  obtain ⟨v', l, e, h1, h2, h3⟩ := open_texts h
  have e' : [Value.slice a n c] = [v'] := e
  simp only [List.cons.injEq, and_true] at e'
  subst e'
  exact ⟨l, h1, h2, h3⟩
end
end Go.Proofs.YtmklodgcbldndaaDoor
namespace Go.Proofs.YtmklodgcbldndaaDoor
open Go.ChangeShapes Go.WideShapes Go.ChangeAt Go.RowKit Go.Joins Go.Lib Go.Deep

section
variable {H : Type} {enc : TypeId × Value → H} {W : World}
theorem open_ints_b {fuel : Nat} {cs : List Value} {x : DataW H × List MemPlace} (h : DataW.trod enc Tryd.prog W 0 (fun _ => true) true fuel 28 cs = some x) :
    ∃ (v : Value) (l : List Int), cs = [v] ∧ IntsD All W v l ∧ l.length ≤ Rows.uptoBulk x.1 ∧ ∀ n ∈ l, (Lit.int .i64 n).wf = true := by
  rcases Go.ChangeShapes.open_ints Tryd.underlying28 Tryd.underlying3 cellsInt h with ⟨rfl, -⟩ | ⟨a, len, cap, zs, rfl, -, hl, hm, hz, rfl, hx, hw⟩
  · exact ⟨_, [], rfl, no_ints _ _, by simp, by simp⟩
  · have hzc : zs.length = cap := by simpa using hz
    have hlen : (zs.take len).length = len := by rw [List.length_take]; omega
    have hn := bulkAll_length (Go.ChangeShapes.lits (H := H) .i64 (zs.take len))
    refine ⟨_, zs.take len, rfl, ⟨some a, cap, by rw [hlen], by rw [hlen]; exact hl, fun h0 => ?_⟩, ?_, fun n hn => hw n (List.mem_of_mem_take hn)⟩
    · rw [hlen] at h0
      obtain ⟨b, off, spot⟩ := a
      have hspot : spot = none := by simpa [Addr.add] using World.cell?_spot (hx 0 (by omega))
      subst hspot
      refine ⟨b, off, rfl, trivial, fun i s hi => ?_⟩
      obtain ⟨hi1, hi2⟩ := List.getElem?_eq_some_iff.1 hi
      rw [hlen] at hi1
      have := hx i (by omega)
      rw [Go.WideShapes.add_plain] at this
      rw [this, ← hi2, List.getElem_take]
      simp [List.getD, List.getElem?_eq_getElem (show i < zs.length by omega)]
    · rw [hlen]
      have e : (Go.ChangeShapes.lits (H := H) .i64 (zs.take len)).length = len := by unfold Go.ChangeShapes.lits; rw [List.length_map, hlen]
      rw [e] at hn
      simp only [Rows.uptoBulk]
      omega
end
end Go.Proofs.YtmklodgcbldndaaDoor
namespace Go.Proofs.YtmklodgcbldndaaDoor
open Go.ChangeShapes Go.WideShapes Go.ChangeAt Go.RowKit Go.Joins Go.Lib Go.Deep
set_option maxRecDepth 100000
theorem cellsEx : Tryd.prog.cellsOf 26 = 6 := by kernel_rfl
theorem cellsVl : Tryd.prog.cellsOf 23 = 3 := by kernel_rfl
theorem cellsExs : Tryd.prog.cellsOf 24 = 1 := by kernel_rfl
section
variable {H : Type} {enc : TypeId × Value → H} {W : World}
/-- A value that came in. -/
theorem open_val_cells {fuel : Nat} {cs : List Value} {x : DataW H × List MemPlace} (h : DataW.trod enc Tryd.prog W 0 (fun _ => true) true fuel 23 cs = some x) :
    ∃ (s n : Int) (t : Str), cs = [.int .i64 s, .int .i64 n, .string ⟨t.toArray⟩] ∧ (Lit.int .i64 s).wf = true ∧ (Lit.int .i64 n).wf = true ∧ t.length ≤ Rows.uptoBulk x.1 := by
  obtain ⟨n, rfl, hl, hf⟩ := trod_fields_b Tryd.underlying23 (by kernel_rfl) cellsVl h
  obtain ⟨c0, c1, c2, rfl⟩ : ∃ c0 c1 c2, cs = [c0, c1, c2] := by
    match cs, hl with
    | [c0, c1, c2], _ => exact ⟨c0, c1, c2, rfl⟩
  obtain ⟨_, x0, e, h0, b0⟩ := hf 0 _ rfl
  obtain rfl := Option.some.inj e
  obtain ⟨_, x1, e, h1, b1⟩ := hf 1 _ rfl
  obtain rfl := Option.some.inj e
  obtain ⟨_, x2, e, h2, b2⟩ := hf 2 _ rfl
  obtain rfl := Option.some.inj e
  obtain ⟨k, e0, -, hk⟩ := DataW.trod_int Tryd.underlying3 h0
  obtain ⟨m, e1, -, hm⟩ := DataW.trod_int Tryd.underlying2 h1
  obtain ⟨s, e2, hx2, hs⟩ := DataW.trod_string Tryd.underlying9 h2
  simp only [List.cons.injEq, and_true] at e0 e1 e2
  subst e0 e1 e2
  refine ⟨k, m, s.data.toList, by rw [mk_data], hk, hm, Nat.le_trans ?_ b2⟩
  rw [hx2]
  simp only [Rows.uptoBulk]
  omega
theorem open_ex_cells : ∀ (fuel : Nat) (cs : List Value) (x : DataW H × List MemPlace), DataW.trod enc Tryd.prog W 0 (fun _ => true) true fuel 26 cs = some x →
    ∃ (t : Ex) (kv : Value), cs = [.int .i64 t.kind, .string ⟨t.name.toArray⟩, .int .i64 t.vs, .int .i64 t.vn, .string ⟨t.vt.toArray⟩, kv] ∧ Exs All W kv t.kids ∧ ExFit (Rows.uptoBulk x.1) t := by
  intro fuel
  induction fuel using Nat.strongRecOn with
  | _ fuel ih =>
  intro cs x h
  obtain ⟨xs, n, rfl, rfl, hl, hlen, hf⟩ := DataW.trod_struct Tryd.underlying26 h
  rw [cellsEx] at hl
  obtain ⟨c0, c1, c2, c3, c4, c5, rfl⟩ : ∃ c0 c1 c2 c3 c4 c5, cs = [c0, c1, c2, c3, c4, c5] := by
    match cs, hl with
    | [c0, c1, c2, c3, c4, c5], _ => exact ⟨c0, c1, c2, c3, c4, c5, rfl⟩
  obtain ⟨y0, y1, y2, y3, rfl⟩ : ∃ y0 y1 y2 y3, xs = [y0, y1, y2, y3] := by
    match xs, hlen with
    | [y0, y1, y2, y3], _ => exact ⟨y0, y1, y2, y3, rfl⟩
  have h0 : DataW.trod enc Tryd.prog W 0 (fun _ => true) true n 3 (([c0, c1, c2, c3, c4, c5].drop 0).take (Tryd.prog.cellsOf 3)) = some y0 := hf 0 _ rfl
  have h1 : DataW.trod enc Tryd.prog W 0 (fun _ => true) true n 9 (([c0, c1, c2, c3, c4, c5].drop 1).take (Tryd.prog.cellsOf 9)) = some y1 := hf 1 _ rfl
  have h2 : DataW.trod enc Tryd.prog W 0 (fun _ => true) true n 23 (([c0, c1, c2, c3, c4, c5].drop 2).take (Tryd.prog.cellsOf 23)) = some y2 := hf 2 _ rfl
  have h3 : DataW.trod enc Tryd.prog W 0 (fun _ => true) true n 24 (([c0, c1, c2, c3, c4, c5].drop 5).take (Tryd.prog.cellsOf 24)) = some y3 := hf 3 _ rfl
  rw [cellsInt] at h0
  rw [cellsStr] at h1
  rw [cellsVl] at h2
  rw [cellsExs] at h3
  simp only [List.drop, List.take] at h0 h1 h2 h3
  obtain ⟨k, e0, -, hk⟩ := DataW.trod_int Tryd.underlying3 h0
  obtain ⟨nm, e1, hx1, hnm⟩ := DataW.trod_string Tryd.underlying9 h1
  obtain ⟨vs, vn, vt, e2, hvs, hvn, hvt⟩ := open_val_cells h2
  simp only [List.cons.injEq, and_true] at e0 e1 e2
  obtain ⟨e2, e3, e4⟩ := e2
  subst e0 e1 e2 e3 e4
  have hBT : Rows.uptoBulk (DataW.agg ([y0, y1, y2, y3].map (·.1))) = Rows.uptoBulk y0.1 + (Rows.uptoBulk y1.1 + (Rows.uptoBulk y2.1 + (Rows.uptoBulk y3.1 + 0))) + 1 := by simp only [List.map, Rows.uptoBulk, Rows.uptoBulkAll]
  have hks : ∃ ks : List Ex, Exs All W c5 ks ∧ ks.length ≤ Rows.uptoBulk y3.1 ∧ ∀ t ∈ ks, ExFit (Rows.uptoBulk y3.1) t := by
    rcases DataW.trod_slice Tryd.underlying24 h3 with ⟨e, -⟩ | ⟨a, len, cap, elems, rest, m, rfl, e, hx6, -, hl, hm, hlen, hel, -, -⟩
    · simp only [List.cons.injEq, and_true] at e
      subst e
      exact ⟨[], no_exs _ _, by simp, by simp⟩
    · simp only [List.cons.injEq, and_true] at e
      subst e
      rw [cellsEx] at hel
      have hbk : Rows.uptoBulkAll (elems.map (·.1)) ≤ Rows.uptoBulk y3.1 := by rw [hx6]; simp only [Rows.uptoBulk]; omega
      have hbl := bulkAll_length (elems.map (·.1))
      simp only [List.length_map] at hbl
      have each : ∀ i, i < len → ∃ (t : Ex), (∃ kv, (∀ j, j < 6 → W.cell? ((a.add (i * 6)).add j) = ([.int .i64 t.kind, .string ⟨t.name.toArray⟩, .int .i64 t.vs, .int .i64 t.vn, .string ⟨t.vt.toArray⟩, kv] : List Value)[j]?) ∧ Exs All W kv t.kids) ∧ ExFit (Rows.uptoBulk y3.1) t := by
        intro i hi
        have he := hel i hi
        rw [List.getElem?_eq_getElem (by omega)] at he
        obtain ⟨cs', hc1, hc2⟩ := Option.bind_eq_some_iff.1 he
        obtain ⟨t, kv, rfl, h6, h7⟩ := ih m (by omega) cs' _ hc2
        exact ⟨t, ⟨kv, (World.cells?_some hc1).2.2, h6⟩, h7.mono (Nat.le_trans (bulkAll_le (List.mem_map_of_mem (List.getElem_mem _))) hbk)⟩
      haveI : Inhabited Ex := ⟨zeroEx⟩
      obtain ⟨T, hT⟩ := choose_lt each
      refine ⟨(List.range len).map T, ⟨some a, cap, by simp, by rw [List.length_map, List.length_range]; omega, (fun e => by cases e), fun h0 => ?_⟩, by simp; omega, ?_⟩
      · simp only [List.length_map, List.length_range] at h0
        obtain ⟨b, off, spot⟩ := a
        have hspot : spot = none := by
          obtain ⟨⟨_, hc, _⟩, _⟩ := hT 0 h0
          have := hc 0 (by omega)
          simp only [Nat.zero_mul] at this
          simpa [Addr.add] using World.cell?_spot this
        subst hspot
        refine ⟨b, off, rfl, trivial, ExRow_of fun i t hi => ?_⟩
        simp only [List.getElem?_map, Option.map_eq_some_iff] at hi
        obtain ⟨j, hj, rfl⟩ := hi
        obtain ⟨hj1, hj2⟩ := List.getElem?_eq_some_iff.1 hj
        simp only [List.length_range, List.getElem_range] at hj1 hj2
        subst hj2
        obtain ⟨⟨kv, hc, h6⟩, _⟩ := hT i hj1
        refine (ExAt_iff _ _ _ _ _).2 ⟨kv, ?_, ?_, ?_, ?_, ?_, ?_, h6⟩
        all_goals first
          | (have := hc 0 (by omega); rw [Go.WideShapes.add_plain, Go.WideShapes.add_plain] at this; exact this)
          | (have := hc 1 (by omega); rw [Go.WideShapes.add_plain, Go.WideShapes.add_plain] at this; exact this)
          | (have := hc 2 (by omega); rw [Go.WideShapes.add_plain, Go.WideShapes.add_plain] at this; exact this)
          | (have := hc 3 (by omega); rw [Go.WideShapes.add_plain, Go.WideShapes.add_plain] at this; exact this)
          | (have := hc 4 (by omega); rw [Go.WideShapes.add_plain, Go.WideShapes.add_plain] at this; exact this)
          | (have := hc 5 (by omega); rw [Go.WideShapes.add_plain, Go.WideShapes.add_plain] at this; exact this)
      · intro t ht
        obtain ⟨i, hi, rfl⟩ := List.mem_map.1 ht
        exact (hT i (List.mem_range.1 hi)).2
  obtain ⟨ks, hks1, hks2, hks3⟩ := hks
  refine ⟨.mk k nm.data.toList vs vn vt ks, c5, ?_, hks1, ?_⟩
  · simp only [Ex.kind, Ex.name, Ex.vs, Ex.vn, Ex.vt, mk_data]
  · refine .mk _ _ _ _ _ _ hk ?_ hvs hvn ?_ ?_ fun t ht => (hks3 t ht).mono ?_
    · rw [hBT, hx1]
      simp only [Rows.uptoBulk]
      omega
    · rw [hBT]; omega
    · rw [hBT]; omega
    · rw [hBT]; omega
/-- An expression that came in. -/
theorem open_ex {r : Reach} {b0 : Nat} {v : Value} {d : DataW H} {p : List MemPlace} (hv : Value.okWide Tryd.prog W r b0 26 v) (h : DataW.Trod enc Tryd.prog W 0 (fun _ => true) true 26 v d p) :
    ∃ t : Ex, ExV All W v t ∧ ExFit (Rows.uptoBulk d) t := by
  obtain ⟨cs, rfl, hc⟩ := okWide_struct Tryd.underlying26 hv
  obtain ⟨fuel, h⟩ := h
  obtain ⟨t, kv, e, h2, h3⟩ := open_ex_cells fuel _ _ h
  refine ⟨t, ⟨kv, ?_, h2⟩, h3⟩
  have : cs.toList = _ := e
  rw [← this]
/-- Lists of words and of numbers that came in, with their bulk. -/
theorem open_words_b {r : Reach} {b0 : Nat} {v : Value} {d : DataW H} {p : List MemPlace} (hv : Value.okWide Tryd.prog W r b0 27 v) (h : DataW.Trod enc Tryd.prog W 0 (fun _ => true) true 27 v d p) :
    ∃ l : List Str, IsStrs W v l ∧ l.length ≤ Rows.uptoBulk d ∧ ∀ s ∈ l, s.length ≤ Rows.uptoBulk d := by
  obtain ⟨a, n, c, rfl⟩ := okWide_slice Tryd.underlying27 hv
  obtain ⟨fuel, h⟩ := h
  obtain ⟨v', l, e, h1, h2, h3⟩ := open_texts_b h
  have e' : [Value.slice a n c] = [v'] := e
  simp only [List.cons.injEq, and_true] at e'
  subst e'
  exact ⟨l, h1, h2, h3⟩
theorem open_nums_b {r : Reach} {b0 : Nat} {v : Value} {d : DataW H} {p : List MemPlace} (hv : Value.okWide Tryd.prog W r b0 28 v) (h : DataW.Trod enc Tryd.prog W 0 (fun _ => true) true 28 v d p) :
    ∃ l : List Int, IntsD All W v l ∧ l.length ≤ Rows.uptoBulk d := by
  obtain ⟨a, n, c, rfl⟩ := okWide_slice Tryd.underlying28 hv
  obtain ⟨fuel, h⟩ := h
  obtain ⟨v', l, e, h1, h2, h3⟩ := open_ints_b h
  have e' : [Value.slice a n c] = [v'] := e
  simp only [List.cons.injEq, and_true] at e'
  subst e'
  exact ⟨l, h1, h2⟩
end
end Go.Proofs.YtmklodgcbldndaaDoor
