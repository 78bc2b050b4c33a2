/-
  The reference's Expr answers 'exErr'.
  As Held, for an operation that the tail waits for through others.
  The reference's yard in memory; tight, reduce.
-/
import Derived.Test.YtpidjanngbaiiaaGreatDoorM12
import Derived.Test.YtpidjanngbaiiaaGreatDoorM7
import Derived.Test.YtpidjanngbaiiaaGreatDoorM5
import Derived.Test.YtpidjanngbaiiaaGreatDoorM11
import Derived.Test.YtpidjanngbaiiaaGreatDoorM8
namespace Go.Proofs.YtpidjanngbaiiaaGreatDoor
open Go.RowKit Go.Proofs

set_option maxRecDepth 100000
theorem listE_cons {m : Nat} {t : Ex} {r : List Ex} : listE (m + 1) (t :: r) = if exOne t = 9 then listE m (t.kids ++ r) else if exOne t = 0 then listE m r else exOne t := rfl
theorem listE_next {m : Nat} {t : Ex} {r : List Ex} (h : exOne t = 9 ∨ exOne t = 0) : listE (m + 1) (t :: r) = listE m (t.kids ++ r) := by
 rw [listE_cons]
 rcases h with h | h
 ·rw [if_pos h]
 ·rw [if_neg (by omega), if_pos h, exOne_9 (by omega) h]; rfl
set_option maxHeartbeats 8000000 in
theorem refExpr_any (t0 : Ex) (v : Value) (w : World) (hv : ExV All w v t0) (hf : ExFit 1048576 t0) (hT : Tabs w) :
    Calls Tryz.prog 60 #[v] w fun e w' => e = .returned (.int .i64 (exErr t0)) ∧ Below w.heap.size w w' := by
  have HV := Lib.hid hv
  obtain ⟨A0, L0, cap0, rfl, hk0⟩ := hv.one'
  have HK0 := Lib.hid hk0
  obtain ⟨ANS, hA⟩ : ∃ x, exErr t0 = x := ⟨_, rfl⟩
  have hA1 := exErr_list t0
  rw [hA] at hA1 ⊢
  have HA := Lib.hid hA1
  clear hA hA1 hv hk0
  go_enter Tryz.func60, Tryz.ntmps60
  go_wp2_with fail
  obtain ⟨W, hW⟩ : ∃ W, (w.alloc (.cells #[.int .i64 t0.kind, .string ⟨t0.name.toArray⟩, .int .i64 t0.vs, .int .i64 t0.vn, .string ⟨t0.vt.toArray⟩, .slice A0 L0 cap0] 52)).alloc (.cells #[.int .i64 t0.kind, .string ⟨t0.name.toArray⟩, .int .i64 t0.vs, .int .i64 t0.vn, .string ⟨t0.vt.toArray⟩, .slice A0 L0 cap0] 52) = W := ⟨_, rfl⟩
  have hbW : Below w.heap.size w W := by subst hW; go_grown
  have hB : ExBox W (w.heap.size + 1) t0 (.slice A0 L0 cap0) := by subst hW; have := new_exval (w.alloc (.cells #[.int .i64 t0.kind, .string ⟨t0.name.toArray⟩, .int .i64 t0.vs, .int .i64 t0.vn, .string ⟨t0.vt.toArray⟩, .slice A0 L0 cap0] 52)) t0 (.slice A0 L0 cap0) 52; rw [World.size_alloc] at this; exact this
  have hst : Exs All W (.slice (some ⟨w.heap.size + 1, 0, none⟩) 1 1) [t0] := ⟨_, 1, rfl, Nat.le_refl _, (fun e => by cases e), fun _ => ⟨_, 0, rfl, trivial, (ExAt_iff _ _ _ _ _).2 ⟨_, hB.c0, hB.c1, hB.c2, hB.c3, hB.c4, hB.c5, HK0.out.below hbW⟩, trivial⟩⟩
  have hTW := hT.below hbW
  try rw [hW]
  clear hW hB
  go_loopw [3, 4] (fun v i wr => ∃ (k : Nat) (st : List Ex), k ≤ 60 ∧ i = .int .i64 k ∧ Exs All wr v st ∧ Hid (∀ t ∈ st, ExFit 1048576 t) ∧ st.length ≤ 1048576 * (k + 1) ∧ Below w.heap.size w wr ∧ Tabs wr ∧ Hid (listE (60 - k) st = ANS)) (fun _ i _ => 61 - (intOf i).toNat)
  case atStart => exact ⟨0, [t0], by omega, rfl, hst, Lib.hid (fun t ht => by rw [List.mem_singleton.1 ht]; exact hf), by simp, hbW, hTW, Lib.hid HA.out⟩
  case round =>
    clear hst hbW hTW
    obtain ⟨k, st, hk, rfl, hst, HFS, hlen, hbw, hTw, HL⟩ := hrel
    have HST := Lib.hid hst
    obtain ⟨A, cap, rfl, hc1, hc2, hc3⟩ := hst
    cases st with
    | nil =>
      clear hc1 hc2 hc3
      go_wp2_with fail
      go_ret
      exact ⟨by have := HL.out; rw [← this]; cases (60 - k) <;> rfl, hbw⟩
    | cons u r =>
      simp only [List.length_cons] at hc1 hlen ⊢
      obtain ⟨b, off, rfl, -, -⟩ := hc3 (by simp)
      obtain ⟨-, -, b', off', A1, n1, p1, e, -, y0, y1, y2, y3, y4, y5, hk'⟩ := exkid_at HST.out (show (u :: r)[0]? = some u from rfl)
      obtain ⟨rfl, rfl⟩ : b = b' ∧ off = off' := by have := Option.some.inj e; injection this with h1 h2; exact ⟨h1, h2⟩
      simp only [Nat.zero_mul, Nat.add_zero] at y0 y1 y2 y3 y4 y5
      have HK' := Lib.hid hk'
      clear hk' hc2 hc3 e
      obtain ⟨M, hM⟩ : ∃ M, r.length + 1 = M := ⟨_, rfl⟩
      have HM := Lib.hid hM
      simp only [List.length_cons] at HST
      rw [hM] at hc1 hlen HST ⊢
      have hM0 : 0 < M := by omega
      have hM1 : M ≤ 9223372036854775807 := by omega
      clear hM
      by_cases h60 : k = 60
      · have hE : ((k : Int) == 60) = true := by rw [beq_iff_eq]; omega
        have HE : ANS = 2 := by have := HL.out; rw [h60] at this; exact this.symm
        clear h60 y0 y1 y2 y3 y4 y5
        go_wp2_with fail
        go_ret
        exact ⟨by rw [HE]; rfl, hbw⟩
      · have hk59 : k ≤ 59 := by omega
        have hE : ((k : Int) == 60) = false := by rw [beq_eq_false_iff_ne]; omega
        clear h60
        obtain ⟨hn1, -, -, -⟩ := HK'.out.src
        have hfu : ExFit 1048576 u := HFS.out u (by simp)
        have hul : u.kids.length ≤ 1048576 := hfu.parts.2.2.2.2.2.1
        have hn1' : n1 ≤ 1048576 := by omega
        have HN1 := Lib.hid hn1
        have HFU := Lib.hid hfu
        clear hn1 hfu hul
        obtain ⟨wa, hwa⟩ : ∃ y, wr.alloc (.cells #[.int .i64 u.kind, .string ⟨u.name.toArray⟩, .int .i64 u.vs, .int .i64 u.vn, .string ⟨u.vt.toArray⟩, .slice A1 n1 p1] 52) = y := ⟨_, rfl⟩
        have hba : Below wr.heap.size wr wa := by subst hwa; exact (Below.refl _ _).alloc (Nat.le_refl _) _
        have hkb : ExBox wa wr.heap.size u (.slice A1 n1 p1) := by subst hwa; exact new_exval wr u _ _
        obtain ⟨k0, k1, k2, k3, k4, k5, k6, k7⟩ := id hkb
        have HKB := Lib.hid hkb
        go_wp2_with fail
        try rw [hwa]
        clear hwa
        have hS : ∀ w' : World, Below wa.heap.size wa w' → (fun w' : World => w'.cell? ⟨wr.heap.size, 5, none⟩ = some (.slice A1 n1 p1)) w' := fun w' h => cell_keep k5 h
        have HSd := Lib.hid (hS wa.drew (Below.refl _ _).drew)
        have HSB := Lib.hid hS
        clear hS
        obtain ⟨so, n2, c2, HSL, hR, hn2⟩ : ∃ so n2 c2, Hid ((cap = 1 ∧ M = 1 ∧ so = off ∧ n2 = 0 ∧ c2 = 0) ∨ (cap ≠ 1 ∧ so = off + 6 ∧ n2 = M - 1 ∧ c2 = cap - 1)) ∧ Exs All wr (.slice (some ⟨b, so, none⟩) n2 c2) r ∧ n2 = M - 1 := by
          by_cases hcap : cap = 1
          · have hM1' : M = 1 := by omega
            have hr : r = [] := List.eq_nil_of_length_eq_zero (by have := HM.out; omega)
            exact ⟨off, 0, 0, Or.inl ⟨hcap, hM1', rfl, rfl, rfl⟩, by rw [hr]; exact ⟨_, 0, rfl, Nat.le_refl _, (fun e => by cases e), fun h => by simp at h⟩, by omega⟩
          · refine ⟨off + 6, M - 1, cap - 1, Or.inr ⟨hcap, rfl, rfl, rfl⟩, ?_, rfl⟩
            have h1 := HM.out
            have := Exs.tail (c := cap - 1) HST.out (by omega)
            rw [show r.length = M - 1 by omega] at this
            exact this
        have hn2' : n2 ≤ M := by omega
        have HN2 := Lib.hid hn2
        have HR := Lib.hid hR
        clear hR hn2
        refine wp_region_T 6 (fun w' : World => w'.cell? ⟨wr.heap.size, 5, none⟩ = some (.slice A1 n1 p1)) (by kernel_rfl) ?_
        refine zT 0 ?_ rfl (Or.inl ⟨by rfl, ?_⟩) HSd.out ?_
        rotate_left
        · (intro wq hSw; have q0 : wq.cell? ⟨wr.heap.size, 5, none⟩ = some (.slice A1 n1 p1) := hSw; go_simp; all_goals (first | (with_reducible rfl) | (rw [if_pos (by omega)]; done) | (rw [if_neg (by omega)]; done) | skip))
        try simp only [zA, zB, zC, Act.put, zD, zE, zF]
        refine zT 1 ?_ rfl (Or.inl ⟨by rfl, ?_⟩) HSd.out ?_
        rotate_left
        · (intro wq hSw; have q0 : wq.cell? ⟨wr.heap.size, 5, none⟩ = some (.slice A1 n1 p1) := hSw; go_simp; all_goals (first | (with_reducible rfl) | (rw [if_pos (by omega)]; done) | (rw [if_neg (by omega)]; done) | skip))
        try simp only [zA, zB, zC, Act.put, zD, zE, zF]
        refine zT 3 ?_ rfl (Or.inl ⟨by rfl, ?_⟩) HSd.out ?_
        rotate_left
        · (intro wq hSw; have q0 : wq.cell? ⟨wr.heap.size, 5, none⟩ = some (.slice A1 n1 p1) := hSw; go_simp; all_goals (first | (with_reducible rfl) | (rw [if_pos (by omega)]; done) | (rw [if_neg (by omega)]; done) | skip))
        try simp only [zA, zB, zC, Act.put, zD, zE, zF]
        refine zT 4 (.slice (some ⟨b, so, none⟩) n2 c2) rfl (Or.inl ⟨by rfl, ?_⟩) HSd.out ?_
        · intro wq hSw
          rcases HSL.out with ⟨h1, h2, h3, h4, h5⟩ | ⟨h1, h3, h4, h5⟩
          · subst h1 h2 h3 h4 h5
            go_simp
          · subst h3 h4 h5
            have h6 : 1 ≤ M := hM0
            go_simp
            all_goals (first | (intro hh; omega) | (rw [if_pos (by omega)]; done) | (rw [if_neg (by omega)]; done))
        try simp only [zA, zB, zC, Act.put, zD, zE, zF]
        have hbd : Below wr.heap.size wr wa.drew := hba.drew
        obtain ⟨-, -, hz1, xs1, hxs1, hsrc1⟩ := ((HK'.out.below hbd).keep (D' := (· < wa.heap.size)) (Same.refl _ _) (fun b _ h => h)).src
        have HX1 := Lib.hid hxs1
        have hlx1 : xs1.length = n1 * 6 := by have := hxs1.length; have := HN1.out; omega
        clear hxs1
        refine zO 2 fun K hK => ?_
        refine step_app_any rt_exs rfl (.const (.slice none 0 0)) (.tmp 22) rfl wa.heap.size _ 0 [] rfl (World.ownsRow_nil _ _ _ _) A1 n1 p1 rfl xs1 hlx1 hz1 hsrc1 HX1.out.one (by unfold maxLen; omega) (by omega) (Nat.le_refl _) (fun v1 w2 o1 o2 => ?_)
        have hb2 : Below wa.heap.size wa w2 := (Below.refl _ _ : Below wa.heap.size wa wa).drew.trans o2
        simp only [Nat.zero_add, List.nil_append] at o1
        obtain ⟨A5, c5, rfl⟩ := own_form o1
        refine hK.out _ _ (fun _ => HSB.out w2 hb2) ?_
        clear hK K
        try simp only [zA, zB, zC, Act.put, zD, zE, zF]
        have hbr2 : Below wr.heap.size wr w2 := chain hba hb2
        obtain ⟨-, -, hz2, xs2, hxs2, hsrc2⟩ := ((HR.out.keep (D' := (· < wr.heap.size)) (Same.refl _ _) (fun b _ h => h)).below hbr2).src
        have HX2 := Lib.hid hxs2
        have hlx2 : xs2.length = n2 * 6 := by have := hxs2.length; have := HM.out; have := HN2.out; omega
        clear hxs2
        refine zO 5 fun K hK => ?_
        refine step_app_any rt_exs rfl (.tmp 23) (.tmp 25) rfl wa.heap.size (.slice A5 n1 c5) n1 xs1 rfl o1 (some ⟨b, so, none⟩) n2 c2 rfl xs2 hlx2 hz2 hsrc2 HX2.out.one (by unfold maxLen; omega) (by omega) (by have := hb2.size; omega) (fun v3 w4 o3 o4 => ?_)
        have hb4 : Below wa.heap.size wa w4 := hb2.trans o4
        obtain ⟨A6, c6, rfl⟩ := own_form o3
        refine hK.out _ _ (fun _ => HSB.out w4 hb4) ?_
        clear hK K
        try simp only [zA, zB, zC, Act.put, zD, zE, zF]
        refine zO 6 fun K hK => ?_
        go_simp
        refine hK.out _ _ (fun h => absurd h (by decide)) ?_
        clear hK K
        try simp only [zA, zB, zC, Act.put, zD, zE, zF]
        refine wpT_done (by kernel_rfl) ?_
        have hNX : Exs All w4 (.slice A6 (n1 + n2) c6) (u.kids ++ r) := by
          have hl : (u.kids ++ r).length = n1 + n2 := by rw [List.length_append]; have := HN1.out; have := HM.out; have := HN2.out; omega
          have h1 := HX1.out.keep (D' := All) (w' := w4) (fun b hD _ => hb4.block b hD) (fun _ _ _ => trivial)
          have h2 := HX2.out.keep (D' := All) (w' := w4) (fun b hD _ => o4.block b (by have := hba.size; have hD' : b < wr.heap.size := hD; omega)) (fun _ _ _ => trivial)
          rw [← hl] at o3 ⊢
          exact own_exs o3 (h1.append h2) (fun _ _ => trivial)
        have HNX := Lib.hid hNX
        have hbw4 := chain hbw (chain hba hb4)
        have hT4 := hTw.below (chain hba hb4)
        obtain ⟨z0, z1, z2, z3, z4, z5, z6, z7⟩ := HKB.out.keep hb4 HKB.out.lt
        have hb4' := hb4
        clear hNX o1 o3 o2 o4 hb2 hb4 hbr2 hz1 hz2 hsrc1 hsrc2 hlx1 hlx2 HX1 HX2 HSB HSd hbd k0 k1 k2 k3 k4 k5 k6 k7
        obtain ⟨Z, hZ⟩ : ∃ Z, n1 + n2 = Z := ⟨_, rfl⟩
        rw [hZ] at HNX ⊢
        have hZb : Z ≤ 1048576 * (k + 1 + 1) := by omega
        have hZl : (u.kids ++ r).length = Z := by rw [List.length_append]; have := HN1.out; have := HM.out; have := HN2.out; omega
        have HZL := Lib.hid hZl
        clear hZ
        clear hZl
        obtain ⟨uk, un, us, uvn, ux, uks⟩ := u
        simp only [Ex.kind_mk, Ex.name_mk, Ex.vs_mk, Ex.vn_mk, Ex.vt_mk, Ex.kids_mk] at z0 z1 z2 z3 z4 HNX HN1 HZL ⊢
        have HL1 : Hid (∀ E, exOne (.mk uk un us uvn ux uks) = E → E ≠ 9 → E ≠ 0 → ANS = E) := by
          intro E h1 h2 h3
          have := HL.out
          rw [show 60 - k = (59 - k) + 1 by omega, listE_cons, if_neg (by omega), if_neg (by omega)] at this
          rw [← this, h1]
        have HL2 : Hid ((exOne (.mk uk un us uvn ux uks) = 9 ∨ exOne (.mk uk un us uvn ux uks) = 0) → listE (60 - (k + 1)) (uks ++ r) = ANS) := by
          intro h
          have := HL.out
          rw [show 60 - k = (59 - k) + 1 by omega, listE_next h] at this
          rw [show 60 - (k + 1) = 59 - k by omega]
          exact this
        have HFIT : Hid (∀ t ∈ uks ++ r, ExFit 1048576 t) := by
          intro t ht
          rcases List.mem_append.1 ht with h | h
          · exact HFU.out.parts.2.2.2.2.2.2 t h
          · exact HFS.out t (List.mem_cons_of_mem _ h)
        have hul : un.length ≤ 1048576 := HFU.out.parts.2.1
        have huxl : ux.length ≤ 1048576 := HFU.out.parts.2.2.2.2.1
        obtain ⟨BR, hb⟩ : ∃ y, bare (.mk uk un us uvn ux uks) = y := ⟨_, rfl⟩
        have hbr : ∀ w : World, (binOp .eql 26 (.agg #[.int .i64 us, .int .i64 uvn, .string ⟨ux.toArray⟩]) (.agg #[.int .i64 0, .int .i64 0, .string ⟨#[]⟩])).run Tryz.prog w = .ok (.bool BR) w := fun w => (run_bare w us uvn ux).trans (congrArg (fun y => Result.ok (Value.bool y) w) hb)
        have HBR := Lib.hid hb
        clear hb
        by_cases k1 : uk = 1
        · subst k1
          by_cases hn : un = []
          · subst hn
            clear hul
            by_cases h0 : n1 = 0
            · subst h0
              obtain ⟨E, hE2⟩ : ∃ y, vchk us uvn ux = y := ⟨_, rfl⟩
              have hone : exOne (.mk 1 [] us uvn ux uks) = E := (exOne_1 HN1.out.symm).trans hE2
              have HE2 := Lib.hid hE2
              have hE9 : E ≠ 9 := by rw [← hE2]; unfold vchk; repeat' split
                                     all_goals decide
              have HO := Lib.hid hone
              clear hE2 hone
              go_wp2_with fail
              refine (refValue_any us uvn w4 ux (by omega) hT4).mono ?_
              rw [HE2.out]
              rintro e w5 ⟨rfl, hb5⟩
              obtain ⟨z0, z1, z2, z3, z4, z5, z6, z7⟩ := (HKB.out.keep hb4' HKB.out.lt).keep hb5 (Nat.lt_of_lt_of_le HKB.out.lt hb4'.size)
              by_cases hE0 : E = 0
              · have hEt : (E != 0) = false := by rw [bne_eq_false_iff_eq]; exact hE0
                have HOO := Lib.hid (HL2.out (Or.inr (HO.out.trans hE0)))
                clear hE0 hE9
                go_wp2_with fail
                go_roundw
                case rel => exact ⟨k + 1, uks ++ r, by omega, by go_num, HNX.out.below hb5, HFIT, by have := HZL.out; omega, chain hbw4 hb5, hT4.below hb5, HOO⟩
                case measure => simp [intOf]; omega
              · have hEt : (E != 0) = true := by rw [bne_iff_ne]; exact hE0
                have HE := Lib.hid (HL1.out E HO.out hE9 hE0)
                clear hE0 hE9
                go_wp2_with fail
                go_ret
                exact ⟨by rw [HE.out]; rfl, chain hbw4 hb5⟩
            · have hone : exOne (.mk 1 [] us uvn ux uks) = 1 := exOne_1k (fun h => h0 (HN1.out.trans h))
              have hpos : 0 < n1 := by omega
              clear h0
              have HE := Lib.hid (HL1.out 1 hone (by decide) (by decide))
              clear hone
              go_wp2_with fail
              go_ret
              exact ⟨by rw [HE.out]; rfl, hbw4⟩
          · have hone : exOne (.mk 1 un us uvn ux uks) = 1 := exOne_1n hn
            have hne : un.isEmpty = false := by simpa using hn
            clear hn
            have HE := Lib.hid (HL1.out 1 hone (by decide) (by decide))
            clear hone
            go_wp2_with fail
            go_ret
            exact ⟨by rw [HE.out]; rfl, hbw4⟩
        · by_cases k2 : uk = 2
          · subst k2
            cases BR with
            | false =>
              have hone : exOne (.mk 2 un us uvn ux uks) = 1 := exOne_2b HBR.out
              have HE := Lib.hid (HL1.out 1 hone (by decide) (by decide))
              clear hone
              go_wp2_with fail
              go_ret
              exact ⟨by rw [HE.out]; rfl, hbw4⟩
            | true =>
              obtain ⟨B, hB⟩ : ∃ y, isName un = y := ⟨_, rfl⟩
              have HB := Lib.hid hB
              clear hB
              go_wp2_with fail
              refine (refIsName_any un w4 (by omega)).mono ?_
              rw [HB.out]
              rintro e w5 ⟨rfl, hb5⟩
              obtain ⟨z0, z1, z2, z3, z4, z5, z6, z7⟩ := (HKB.out.keep hb4' HKB.out.lt).keep hb5 (Nat.lt_of_lt_of_le HKB.out.lt hb4'.size)
              cases B with
              | false =>
                have hone : exOne (.mk 2 un us uvn ux uks) = 1 := exOne_2n HB.out
                have HE := Lib.hid (HL1.out 1 hone (by decide) (by decide))
                clear hone
                go_wp2_with fail
                go_ret
                exact ⟨by rw [HE.out]; rfl, chain hbw4 hb5⟩
              | true =>
                by_cases h0 : n1 = 0
                · have HOO := Lib.hid (HL2.out (Or.inr (exOne_2 HBR.out (HN1.out.symm.trans h0) HB.out)))
                  subst h0
                  go_wp2_with fail
                  go_roundw
                  case rel => exact ⟨k + 1, uks ++ r, by omega, by go_num, HNX.out.below hb5, HFIT, by have := HZL.out; omega, chain hbw4 hb5, hT4.below hb5, HOO⟩
                  case measure => simp [intOf]; omega
                · have hone : exOne (.mk 2 un us uvn ux uks) = 1 := exOne_2k (fun h => h0 (HN1.out.trans h))
                  have hpos : 0 < n1 := by omega
                  clear h0
                  have HE := Lib.hid (HL1.out 1 hone (by decide) (by decide))
                  clear hone
                  go_wp2_with fail
                  go_ret
                  exact ⟨by rw [HE.out]; rfl, chain hbw4 hb5⟩
          · by_cases k3 : uk = 3
            · subst k3
              have e0 := Lib.hid (exOne_3 (n := un) (s := us) (v := uvn) (x := ux) (ks := uks))
              obtain ⟨B1, h1⟩ : ∃ y, (un == [110, 111, 116]) = y := ⟨_, rfl⟩
              obtain ⟨B2, h2⟩ : ∃ y, (un == [110, 101, 103]) = y := ⟨_, rfl⟩
              obtain ⟨B3, h3⟩ : ∃ y, (un == [35]) = y := ⟨_, rfl⟩
              have HLN : Hid (lone un = (B1 || (B2 || B3))) := by
                show lone un = _
                unfold lone
                rw [← h1, ← h2, ← h3]
                rw [Bool.eq_iff_iff]; simp
              cases BR with
              | false =>
                have hone := e0.out.trans (if_neg (fun h => absurd (HBR.out.symm.trans h.1) (by decide)))
                have HE := Lib.hid (HL1.out 1 hone (by decide) (by decide))
                clear hone
                cases B1 <;> cases B2 <;> cases B3
                all_goals
                  go_wp2_with fail
                  go_ret
                  exact ⟨by rw [HE.out]; rfl, hbw4⟩
              | true =>
                obtain ⟨S, hS⟩ : ∃ y, (B1 || (B2 || B3)) = y := ⟨_, rfl⟩
                rw [hS] at HLN
                cases S with
                | true =>
                  have hlv : level un = 0 := by
                    have := HLN.out
                    unfold lone at this
                    simp only [Bool.or_eq_true, decide_eq_true_eq] at this
                    rcases this with h | h | h <;> rw [h] <;> decide
                  have HLV := Lib.hid hlv
                  clear hlv
                  by_cases h1n : n1 = 1
                  · have HOO := Lib.hid (HL2.out (Or.inl (e0.out.trans (if_pos ⟨HBR.out, Or.inl ⟨HLN.out, HN1.out.symm.trans h1n⟩⟩))))
                    have hq : ((n1 : Int) == 1) = true := by rw [beq_iff_eq]; omega
                    clear h1n
                    cases B1 <;> cases B2 <;> cases B3 <;> try (exact absurd hS (by decide))
                    all_goals
                      clear hS
                      go_wp2_with fail
                      go_roundw
                      case rel => exact ⟨k + 1, uks ++ r, by omega, by go_num, HNX.out, HFIT, by have := HZL.out; omega, hbw4, hT4, HOO⟩
                      case measure => simp [intOf]; omega
                  · have hone := e0.out.trans (if_neg (fun h => h.2.elim (fun h => h1n (HN1.out.trans h.2)) (fun h => by have := HLV.out; omega)))
                    have HE := Lib.hid (HL1.out 1 hone (by decide) (by decide))
                    have hq : ((n1 : Int) == 1) = false := by rw [beq_eq_false_iff_ne]; omega
                    clear hone h1n
                    cases B1 <;> cases B2 <;> cases B3 <;> try (exact absurd hS (by decide))
                    all_goals
                      clear hS
                      go_wp2_with fail
                      refine (refLevel_any un w4).mono ?_
                      rw [HLV.out]
                      rintro e w5 ⟨rfl, hb5⟩
                      obtain ⟨z0, z1, z2, z3, z4, z5, z6, z7⟩ := (HKB.out.keep hb4' HKB.out.lt).keep hb5 (Nat.lt_of_lt_of_le HKB.out.lt hb4'.size)
                      go_wp2_with fail
                      go_ret
                      exact ⟨by rw [HE.out]; rfl, chain hbw4 hb5⟩
                | false =>
                  obtain ⟨V, hV⟩ : ∃ y, level un = y := ⟨_, rfl⟩
                  have hV0 : 0 ≤ V := by rw [← hV]; exact (level_lt un).1
                  have HV2 := Lib.hid hV
                  clear hV
                  have hBs : B1 = false ∧ B2 = false ∧ B3 = false := by cases B1 <;> cases B2 <;> cases B3 <;> simp_all
                  obtain ⟨rfl, rfl, rfl⟩ := hBs
                  clear hS
                  go_wp2_with fail
                  refine (refLevel_any un w4).mono ?_
                  rw [HV2.out]
                  rintro e w5 ⟨rfl, hb5⟩
                  obtain ⟨z0, z1, z2, z3, z4, z5, z6, z7⟩ := (HKB.out.keep hb4' HKB.out.lt).keep hb5 (Nat.lt_of_lt_of_le HKB.out.lt hb4'.size)
                  by_cases hv0 : V = 0
                  · have hone := e0.out.trans (if_neg (fun h => h.2.elim (fun h => absurd (HLN.out.symm.trans h.1) (by decide)) (fun h => by have := HV2.out; omega)))
                    have HE := Lib.hid (HL1.out 1 hone (by decide) (by decide))
                    have hvp : decide ((0 : Int) < V) = false := by simp; omega
                    clear hone hv0
                    go_wp2_with fail
                    go_ret
                    exact ⟨by rw [HE.out]; rfl, chain hbw4 hb5⟩
                  · have hvp : decide ((0 : Int) < V) = true := by simp; omega
                    by_cases h2n : n1 = 2
                    · have HOO := Lib.hid (HL2.out (Or.inl (e0.out.trans (if_pos ⟨HBR.out, Or.inr ⟨by have := HV2.out; omega, HN1.out.symm.trans h2n⟩⟩))))
                      have hq : ((n1 : Int) == 2) = true := by rw [beq_iff_eq]; omega
                      clear h2n hv0
                      go_wp2_with fail
                      go_roundw
                      case rel => exact ⟨k + 1, uks ++ r, by omega, by go_num, HNX.out.below hb5, HFIT, by have := HZL.out; omega, chain hbw4 hb5, hT4.below hb5, HOO⟩
                      case measure => simp [intOf]; omega
                    · have hone := e0.out.trans (if_neg (fun h => h.2.elim (fun h => absurd (HLN.out.symm.trans h.1) (by decide)) (fun h => h2n (HN1.out.trans h.2))))
                      have HE := Lib.hid (HL1.out 1 hone (by decide) (by decide))
                      have hq : ((n1 : Int) == 2) = false := by rw [beq_eq_false_iff_ne]; omega
                      clear hone h2n hv0
                      go_wp2_with fail
                      go_ret
                      exact ⟨by rw [HE.out]; rfl, chain hbw4 hb5⟩
            · have hone : exOne (.mk uk un us uvn ux uks) = 1 := exOne_o k1 k2 k3
              have q1 : (uk == 1) = false := by rw [beq_eq_false_iff_ne]; exact k1
              have q2 : (uk == 2) = false := by rw [beq_eq_false_iff_ne]; exact k2
              have q3 : (uk == 3) = false := by rw [beq_eq_false_iff_ne]; exact k3
              clear k1 k2 k3
              have HE := Lib.hid (HL1.out 1 hone (by decide) (by decide))
              clear hone
              go_wp2_with fail
              go_ret
              exact ⟨by rw [HE.out]; rfl, hbw4⟩
end Go.Proofs.YtpidjanngbaiiaaGreatDoor
namespace Go.Proofs.YtpidjanngbaiiaaGreatDoor
open Go.RowKit Go.Proofs

section
variable {P : Program} {ops : Array Oper} {Q : Exit → Act → World → Prop} {md : Region.Mode} {S : World → Prop} {n : Nat}
def Closed (md : Region.Mode) (ops : Array Oper) (L : Array Bool) : Prop := ∀ j o, ops[j]? = some o → L.getD j false = true → ∀ e ∈ o.after, Region.binds md e = true → L.getD e.on false = true
def closedB (md : Region.Mode) (ops : Array Oper) (L : Array Bool) : Bool := (List.range ops.size).all fun j => match ops[j]? with | some o => !(L.getD j false) || o.after.all fun e => !Region.binds md e || L.getD e.on false | none => true
theorem closed_of {L : Array Bool} (h : closedB md ops L = true) : Closed md ops L := by
 intro j o ho hj e he hb
 have hjs : j < ops.size := (Array.getElem?_eq_some_iff.1 ho).1
 have h1 := List.all_eq_true.1 h j (List.mem_range.2 hjs)
 simp only [ho, hj, Bool.not_true, Bool.false_or] at h1
 obtain ⟨k, hk, rfl⟩ := Array.mem_iff_getElem.1 he
 have h2 := Array.all_eq_true.1 h1 k hk
 simpa [hb] using h2
theorem closed_step {L : Array Bool} (h : Closed md ops L) {i : Nat} (hi : i ∈ Region.ready md ops L) : Closed md ops (L.setIfInBounds i true) := by
 intro j o ho hj e he hb
 obtain ⟨_, o', ho', hall⟩ := mem_ready.1 hi
 by_cases hij : i = j
 ·subst hij
  rw [ho] at ho'
  obtain rfl := Option.some.inj ho'
  exact getD_set_true (hall e he hb)
 ·rw [getD_set_ne false hij] at hj
  exact getD_set_true (h j o ho hj e he hb)
def waitsT (md : Region.Mode) (ops : Array Oper) (i : Nat) : Nat → Nat → Bool
 | 0, _ => false
 | f + 1, k => match ops[k]? with
  | some o => o.after.any fun e => Region.binds md e && (e.on == i || waitsT md ops i f e.on)
  | none => false
theorem waitsT_no {L : Array Bool} (h : Closed md ops L) {i : Nat} (hi : L.getD i false = false) : ∀ (f k : Nat), waitsT md ops i f k = true → L.getD k false = false := by
 intro f
 induction f with
 | zero => intro k hk; simp [waitsT] at hk
 | succ f ih =>
  intro k hk
  cases hL : L.getD k false with
  | false => rfl
  | true =>
   unfold waitsT at hk
   split at hk
   ·rename_i o ho
    obtain ⟨x, hx, he⟩ := Array.any_eq_true.1 hk
    simp only [Bool.and_eq_true, Bool.or_eq_true, beq_iff_eq] at he
    have h1 := h k o ho hL _ (Array.getElem_mem hx) he.1
    rcases he.2 with e | e
    ·rw [e, hi] at h1; cases h1
    ·rw [ih _ e] at h1; cases h1
   ·cases hk
def tailWaitsT (md : Region.Mode) (ops : Array Oper) (n i : Nat) : Bool := (List.range ops.size).all fun j => decide (j < n) || waitsT md ops i ops.size j
theorem tailT_lt {i j : Nat} {L : Array Bool} (hc : Closed md ops L) (h : tailWaitsT md ops n i = true) (hi : L.getD i true = false) (hj : j ∈ Region.ready md ops L) : j < n := by
 have hif : L.getD i false = false := by
  rcases Nat.lt_or_ge i L.size with h' | h'
  ·simp only [Array.getD, h', dite_true] at hi ⊢; exact hi
  ·simp [Array.getD, Nat.not_lt.2 h'] at hi
 obtain ⟨hu, o, ho, hall⟩ := mem_ready.1 hj
 have hjs : j < ops.size := (Array.getElem?_eq_some_iff.1 ho).1
 have h1 := List.all_eq_true.1 h j (List.mem_range.2 hjs)
 simp only [Bool.or_eq_true, decide_eq_true_eq] at h1
 rcases h1 with h1 | h1
 ·exact h1
 ·exfalso
  obtain ⟨f, hf⟩ : ∃ f, ops.size = f + 1 := ⟨ops.size - 1, by omega⟩
  rw [hf] at h1
  unfold waitsT at h1
  rw [ho] at h1
  obtain ⟨x, hx, he⟩ := Array.any_eq_true.1 h1
  simp only [Bool.and_eq_true, Bool.or_eq_true, beq_iff_eq] at he
  have h2 := hall _ (Array.getElem_mem hx) he.1
  rcases he.2 with e | e
  ·rw [e, hif] at h2; cases h2
  ·rw [waitsT_no hc hif _ _ e] at h2; cases h2
theorem wpT_firstT {i : Nat} {oi : Oper} {v : Value} (hi : ops[i]? = some oi) (hsel : ∀ (j : Nat) (o : Oper) cs b, ops[j]? = some o → o.op ≠ .select cs b) (htail : tailWaitsT md ops n i = true)
  (hQ : ∀ c a w, Q (.panic c) (a.put oi.dst v) w → Q (.panic c) a w) :
  ∀ (g : Nat) (L : Array Bool) (a : Act) (w : World), Closed md ops L →
   (∀ j oj, ops[j]? = some oj → j ≠ i → L.getD j true = false → (∀ e ∈ oj.after, Region.binds md e = true → e.on ≠ i) → oi.apart ops oj = true) →
   i ∈ Region.ready md ops L → YieldsIf P ops S oi v a → S w → wpT P md ops Q S n g (L.setIfInBounds i true) (a.put oi.dst v) w → wpT P md ops Q S n (g + 1) L a w := by
 intro g
 induction g with
 | zero =>
  intro L a w _ _ hr hy hS H
  refine ⟨fun h => (by rw [h] at hr; cases hr), fun j hj => ?_⟩
  by_cases hji : j = i
  ·subst hji
   exact hy.wpOp hi hS ⟨fun _ => hS, H⟩
  ·have h1 := ready_mono hj hji
   rw [H.1] at h1
   cases h1
 | succ g ih =>
  intro L a w hc hfree hr hy hS H
  refine ⟨fun h => (by rw [h] at hr; cases hr), fun j hj => ?_⟩
  by_cases hji : j = i
  ·subst hji
   exact hy.wpOp hi hS ⟨fun _ => hS, H⟩
  have hiL := (mem_ready.1 hr).1
  have hjn : j < n := tailT_lt hc htail hiL hj
  have h1 := H.2 j (ready_mono hj hji)
  obtain ⟨hju, oj, hoj, hall⟩ := mem_ready.1 hj
  have hno : ∀ e ∈ oj.after, Region.binds md e = true → e.on ≠ i := by
   intro e he hb hei
   have h2 := hall e he hb
   rw [hei] at h2
   rcases Nat.lt_or_ge i L.size with h' | h'
   ·simp only [Array.getD, h', dite_true] at hiL h2
    exact absurd (hiL.symm.trans h2) (by simp)
   ·simp [Array.getD, Nat.not_lt.2 h'] at hiL
  have h2 := wpOp_putIf hoj (hfree j oj hoj hji hju hno) (fun cs b => hsel i oi cs b hi) (fun cs b => hsel j oj cs b hoj) hQ hy h1
  refine wpOp_mono (fun a' w' h3 => ⟨h3.2.1, ?_⟩) h2
  refine ih (L.setIfInBounds j true) a' w' (closed_step hc hj) (fun k ok hk hki hun hno' => ?_) (ready_mono hr (Ne.symm hji)) h3.1 (h3.2.1 hjn) ?_
  ·refine hfree k ok hk hki ?_ hno'
   by_cases hjk : j = k
   ·subst hjk; exact hju
   ·rw [getD_set_ne true hjk] at hun; exact hun
  ·rw [Array.setIfInBounds_comm _ _ hji]
   exact h3.2.2
theorem wpT_takeT {i : Nat} {oi : Oper} {v : Value} {g : Nat} {L : Array Bool} {a : Act} {w : World} (hi : ops[i]? = some oi)
  (hs : Region.noSelect ops = true) (hf : Region.free md ops L i = true) (hr : (Region.ready md ops L).contains i = true) (ht : tailWaitsT md ops n i = true) (hc : closedB md ops L = true)
  (hQ : ∀ c a w, Q (.panic c) (a.put oi.dst v) w → Q (.panic c) a w) (hy : YieldsIf P ops S oi v a) (hS : S w)
  (h : wpT P md ops Q S n g (L.setIfInBounds i true) (a.put oi.dst v) w) : wpT P md ops Q S n (g + 1) L a w :=
 wpT_firstT hi (Region.noSelect_spec hs) ht hQ g L a w (closed_of hc) (Region.free_spec hi hf) (by simpa using hr) hy hS h
end
end Go.Proofs.YtpidjanngbaiiaaGreatDoor
namespace Go.Proofs.YtpidjanngbaiiaaGreatDoor
open Go.RowKit Go.Proofs

set_option maxRecDepth 100000
theorem refTight_any (s : Str) (w : World) : Calls Tryz.prog 58 #[.string ⟨s.toArray⟩] w fun e w' => e = .returned (.int .i64 (tightN s)) ∧ Below w.heap.size w w' := by
 obtain ⟨T, hT⟩ : ∃ t, tightN s = t := ⟨_, rfl⟩
 rw [hT]
 have HT := Lib.hid hT
 clear hT
 by_cases h1 : s = [40]
 ·subst h1
  have : T = 0 := HT.out.symm
  subst this
  go_enter Tryz.func58, Tryz.ntmps58
  go_wp2_with fail
  go_ret
  exact ⟨rfl, Below.refl _ _⟩
 ·have n1 : (s == [40]) = false := by rw [beq_eq_false_iff_ne]; exact h1
  cases hl : lone s with
  | true =>
   have hT9 : T = 9 := by rw [← HT.out]; unfold tightN; rw [if_neg h1, if_pos hl]
   subst hT9
   have h3 : s = [110, 111, 116] ∨ s = [110, 101, 103] ∨ s = [35] := by
    unfold lone at hl
    simp only [Bool.or_eq_true, decide_eq_true_eq] at hl
    exact hl
   rcases h3 with rfl | rfl | rfl
   all_goals
    go_enter Tryz.func58, Tryz.ntmps58
    go_wp2_with fail
    go_ret
    exact ⟨rfl, Below.refl _ _⟩
  | false =>
   have hTl : T = level s := by rw [← HT.out]; unfold tightN; rw [if_neg h1, if_neg (by rw [hl]; simp)]
   subst hTl
   have h3 : (s == [110, 111, 116]) = false ∧ (s == [110, 101, 103]) = false ∧ (s == [35]) = false := by
    unfold lone at hl
    simp only [Bool.or_eq_false_iff, decide_eq_false_iff_not] at hl
    exact ⟨by rw [beq_eq_false_iff_ne]; exact hl.1, by rw [beq_eq_false_iff_ne]; exact hl.2.1, by rw [beq_eq_false_iff_ne]; exact hl.2.2⟩
   obtain ⟨n2, n3, n4⟩ := h3
   clear HT h1 hl
   go_enter Tryz.func58, Tryz.ntmps58
   go_wp2_with fail
   refine (refLevel_any s w).mono ?_
   rintro e w1 ⟨rfl, hb⟩
   go_wp2_with fail
   go_ret
   exact ⟨rfl, hb⟩
theorem own_same {w w' : World} {base : Nat} {E : TypeId} {size n : Nat} {v : Value} {xs : List Value} (h : w.ownsRow base E size v n xs) (hs : ∀ k, v.ownBlock = some k → w'.heap[k]? = w.heap[k]?) : w'.ownsRow base E size v n xs := by
 refine ⟨h.1, ?_⟩
 rcases h.2 with hn | ⟨g, cap, cur, hv, hb, hg, rest⟩
 ·exact .inl hn
 ·exact .inr ⟨g, cap, cur, hv, hb, (hs g (by rw [hv]; rfl)).trans hg, rest⟩
theorem own_cut {w : World} {base : Nat} {E : TypeId} {size n m cap : Nat} {A : Option Addr} {xs : List Value} (h : w.ownsRow base E size (.slice A n cap) n xs) (hm : m ≤ n) : w.ownsRow base E size (.slice A m cap) m (xs.take (m * size)) := by
 obtain ⟨h1, h2⟩ := h
 have hms : m * size ≤ n * size := Nat.mul_le_mul_right size hm
 refine ⟨by rw [List.length_take]; omega, ?_⟩
 rcases h2 with ⟨e, h0⟩ | ⟨g, cap', cur, e, hb, hg, hn, hc, hs, ht⟩
 ·injection e with e1 e2 e3
  have hm0 : m = 0 := by omega
  exact .inl ⟨by rw [e1, e3, hm0], hm0⟩
 ·injection e with e1 e2 e3
  subst e1 e3
  exact .inr ⟨g, cap, cur, rfl, hb, hg, by omega, hc, hs, by rw [← ht, List.take_take, Nat.min_eq_left hms]⟩
theorem ExCells.split {D : Blocks} {w : World} : ∀ {ts : List Ex} {us : List Ex} {xs : List Value}, ExCells D w xs (ts ++ us) → ∃ ys zs, xs = ys ++ zs ∧ ExCells D w ys ts ∧ ExCells D w zs us
 | [], us, xs, h => ⟨[], xs, rfl, .nil, h⟩
 | t :: ts, us, xs, h => by
  cases h with
  | cons _ v xs' _ hq h' =>
   obtain ⟨ys, zs, e, h1, h2⟩ := ExCells.split h'
   exact ⟨.int .i64 t.kind :: .string ⟨t.name.toArray⟩ :: .int .i64 t.vs :: .int .i64 t.vn :: .string ⟨t.vt.toArray⟩ :: v :: ys, zs, by rw [e]; rfl, .cons t v _ _ hq h1, h2⟩
def yD (base : Nat) (ov vv : Value) : Blocks := fun k => base ≤ k ∧ some k ≠ ov.ownBlock ∧ some k ≠ vv.ownBlock
def strsOf (l : List Str) : List Value := l.map fun s => .string ⟨s.toArray⟩
structure Yard (w : World) (base Y : Nat) (ov vv : Value) (OL : List Str) (xs : List Value) (VL : List Ex) : Prop where
 c0 : w.cell? ⟨Y, 0, none⟩ = some ov
 c1 : w.cell? ⟨Y, 1, none⟩ = some vv
 fr : ∀ j, w.frozen? ⟨Y, j, none⟩ = false
 lt : Y < base
 lb : base ≤ w.heap.size
 own : w.ownsRow base 9 1 ov OL.length (strsOf OL)
 vown : w.ownsRow base 52 6 vv VL.length xs
 cells : ExCells (yD base ov vv) w xs VL
theorem own_ne {w : World} {base : Nat} {n m : Nat} {ov vv : Value} {xs ys : List Value} (h : w.ownsRow base 9 1 ov n xs) (h' : w.ownsRow base 52 6 vv m ys) {g : Nat} (hg : ov.ownBlock = some g) : vv.ownBlock ≠ some g := by
 intro hv
 rcases h.2 with ⟨rfl, -⟩ | ⟨g1, cap, cur, rfl, -, hh, -⟩
 ·simp [Value.ownBlock] at hg
 ·rcases h'.2 with ⟨rfl, -⟩ | ⟨g2, cap2, cur2, rfl, -, hh2, -⟩
  ·simp [Value.ownBlock] at hv
  ·simp only [Value.ownBlock, Option.some.injEq] at hg hv
   subst hg
   subst hv
   rw [hh] at hh2
   injection hh2 with e
   injection e with e1 e2
   exact absurd e2 (by decide)
theorem Yard.setOps {w w' : World} {base Y : Nat} {ov vv : Value} {OL : List Str} {xs : List Value} {VL : List Ex} (h : Yard w base Y ov vv OL xs VL) (ov' : Value) (OL' : List Str) (ho : w'.ownsRow base 9 1 ov' OL'.length (strsOf OL')) (hsz : w.heap.size ≤ w'.heap.size) (hsm : ∀ k, k < w.heap.size → some k ≠ ov.ownBlock → w'.heap[k]? = w.heap[k]?) (hbl : ov'.ownBlock = ov.ownBlock ∨ ∃ n, ov'.ownBlock = some n ∧ w.heap.size ≤ n) :
  Yard (w'.setCell ⟨Y, 0, none⟩ ov') base Y ov' vv OL' xs VL := by
 have hYo : some Y ≠ ov.ownBlock := fun e => by have := (h.own.lt Y e.symm).1; have := h.lt; omega
 have hYl : Y < w.heap.size := Nat.lt_of_lt_of_le h.lt h.lb
 have hb := hsm Y hYl hYo
 have e0 : w'.cell? ⟨Y, 0, none⟩ = some ov := (World.cell?_of_block (a := ⟨Y, 0, none⟩) hb).trans h.c0
 have e1 : w'.cell? ⟨Y, 1, none⟩ = some vv := (World.cell?_of_block (a := ⟨Y, 1, none⟩) hb).trans h.c1
 refine ⟨World.cell?_setCell_same' _ _ _ (by rw [e0]; rfl), (World.cell?_setCell_other _ _ _ _ (by simp)).trans e1, fun j => ?_, h.lt, by rw [World.size_setCell]; exact Nat.le_trans h.lb hsz, own_set ho h.lt _, own_set (own_same h.vown fun k hk => hsm k (h.vown.lt k hk).2 fun e => own_ne h.own h.vown e.symm hk) h.lt _, ?_⟩
 ·rw [World.frozen?_setCell]
  exact (World.frozen?_of_block (a := ⟨Y, j, none⟩) hb).trans (h.fr j)
 ·refine h.cells.keep (fun k hk hl => ?_) (fun k hk hl => ⟨hk.1, fun e => ?_, hk.2.2⟩)
  ·exact (Same.set (D := fun k => base ≤ k) (p := ⟨Y, 0, none⟩) (fun (hb : base ≤ Y) => by have := h.lt; omega) k hk.1 (Nat.lt_of_lt_of_le hl hsz)).trans (hsm k hl hk.2.1)
  ·rcases hbl with e2 | ⟨n, e2, hn⟩
   ·exact hk.2.1 (e.trans e2)
   ·rw [e2] at e; injection e with e; omega
theorem Yard.setVals {w w' : World} {base Y : Nat} {ov vv : Value} {OL : List Str} {xs : List Value} {VL : List Ex} (h : Yard w base Y ov vv OL xs VL) (vv' : Value) (xs' : List Value) (VL' : List Ex) (ho : w'.ownsRow base 52 6 vv' VL'.length xs') (hc : ExCells (yD base ov vv') w' xs' VL') (hsz : w.heap.size ≤ w'.heap.size) (hsm : ∀ k, k < w.heap.size → some k ≠ vv.ownBlock → w'.heap[k]? = w.heap[k]?) :
  Yard (w'.setCell ⟨Y, 1, none⟩ vv') base Y ov vv' OL xs' VL' := by
 have hYo : some Y ≠ vv.ownBlock := fun e => by have := (h.vown.lt Y e.symm).1; have := h.lt; omega
 have hYl : Y < w.heap.size := Nat.lt_of_lt_of_le h.lt h.lb
 have hb := hsm Y hYl hYo
 have e0 : w'.cell? ⟨Y, 0, none⟩ = some ov := (World.cell?_of_block (a := ⟨Y, 0, none⟩) hb).trans h.c0
 have e1 : w'.cell? ⟨Y, 1, none⟩ = some vv := (World.cell?_of_block (a := ⟨Y, 1, none⟩) hb).trans h.c1
 refine ⟨(World.cell?_setCell_other _ _ _ _ (by simp)).trans e0, World.cell?_setCell_same' _ _ _ (by rw [e1]; rfl), fun j => ?_, h.lt, by rw [World.size_setCell]; exact Nat.le_trans h.lb hsz, own_set (own_same h.own fun k hk => hsm k (h.own.lt k hk).2 fun e => own_ne h.own h.vown hk e.symm) h.lt _, own_set ho h.lt _, ?_⟩
 ·rw [World.frozen?_setCell]
  exact (World.frozen?_of_block (a := ⟨Y, j, none⟩) hb).trans (h.fr j)
 ·exact hc.keep (Same.set (fun hb => by have := h.lt; exact absurd hb.1 (by show ¬ base ≤ Y; omega))) (fun k hk _ => hk)
theorem Yard.drew {w w' : World} {base Y : Nat} {ov vv : Value} {OL : List Str} {xs : List Value} {VL : List Ex} (h : Yard w base Y ov vv OL xs VL) (hsz : w.heap.size ≤ w'.heap.size) (hsm : ∀ k, k < w.heap.size → w'.heap[k]? = w.heap[k]?) : Yard w' base Y ov vv OL xs VL := by
 have hYl : Y < w.heap.size := Nat.lt_of_lt_of_le h.lt h.lb
 have hb := hsm Y hYl
 exact ⟨(World.cell?_of_block (a := ⟨Y, 0, none⟩) hb).trans h.c0, (World.cell?_of_block (a := ⟨Y, 1, none⟩) hb).trans h.c1, fun j => (World.frozen?_of_block (a := ⟨Y, j, none⟩) hb).trans (h.fr j), h.lt, Nat.le_trans h.lb hsz, own_same h.own fun k hk => hsm k (h.own.lt k hk).2, own_same h.vown fun k hk => hsm k (h.vown.lt k hk).2, h.cells.keep (fun k _ hl => hsm k hl) (fun k hk _ => hk)⟩
theorem Yard.below {w w' : World} {base Y : Nat} {ov vv : Value} {OL : List Str} {xs : List Value} {VL : List Ex} (h : Yard w base Y ov vv OL xs VL) (hb : Below w.heap.size w w') : Yard w' base Y ov vv OL xs VL := h.drew hb.size fun k hl => hb.block k hl
end Go.Proofs.YtpidjanngbaiiaaGreatDoor
