/-
  duetref.SortOf answers 'sortE' on good expressions.
  exprs.Sort.
-/
import Derived.Test.YtmklodgcbldndaaDoorExO
namespace Go.Proofs.YtmklodgcbldndaaDoor
open Go.RowKit Go.Proofs

set_option maxRecDepth 100000
abbrev GIH (m : Nat) : Prop := ∀ (ns : List Str) (ss : List Int) (nv sv : Value) (t : Ex) (v : Value) (w : World), eparts t ≤ m → ExV All w v t → ExFit 1048576 t → GoodE t → Env w nv sv ns ss → SortSays 9 ns ss nv sv t v w
set_option maxHeartbeats 2000000 in
theorem sof_lit (ns : List Str) (ss : List Int) (nv sv : Value) (n : Str) (s vn : Int) (x : Str) (ks : List Ex) (v : Value) (w : World) (hv : ExV All w v (.mk 1 n s vn x ks)) : SortSays 9 ns ss nv sv (.mk 1 n s vn x ks) v w := by
  unfold SortSays
  have e : sortE ns ss (.mk 1 n s vn x ks) = (s, 0) := by simp [sortE]
  rw [e]
  clear e
  obtain ⟨A, L, cap, rfl, hk⟩ := hv.one'
  simp only [Ex.kind, Ex.name, Ex.vs, Ex.vn, Ex.vt, Ex.kids] at hk ⊢
  clear hk hv
  go_enter Tryd.func9, Tryd.ntmps9
  go_wp2_with fail
  go_ret2
  exact ⟨rfl, by go_grown⟩
set_option maxHeartbeats 2000000 in
theorem sof_name (ns : List Str) (ss : List Int) (nv sv : Value) (n : Str) (s vn : Int) (x : Str) (ks : List Ex) (v : Value) (w : World) (hv : ExV All w v (.mk 2 n s vn x ks)) (hE : Env w nv sv ns ss) : SortSays 9 ns ss nv sv (.mk 2 n s vn x ks) v w := by
  unfold SortSays
  obtain ⟨A, L, cap, rfl, hk⟩ := hv.one'
  simp only [Ex.kind_mk, Ex.name_mk, Ex.vs_mk, Ex.vn_mk, Ex.vt_mk, Ex.kids_mk] at hk ⊢
  obtain ⟨hns, hss, hl, hnb⟩ := hE
  have HNS := Lib.hid hns
  have HSS := Lib.hid hss
  obtain ⟨A1, c1, rfl, hc1, -⟩ := hns
  obtain ⟨A2, c2, rfl, hc2, -⟩ := hss
  obtain ⟨N, hN⟩ : ∃ N, ns.length = N := ⟨_, rfl⟩
  have HN := Lib.hid hN
  have HSL := Lib.hid hl
  rw [hN] at hnb hc1 hl ⊢
  rw [hl] at hc2 ⊢
  obtain ⟨R, hR⟩ : ∃ R, sortE ns ss (.mk 2 n s vn x ks) = R := ⟨_, rfl⟩
  have HR : Hid ((match lookN ns ss n N with | some v => (v, 0) | none => (0, 4)) = R) := by
    show _ = _
    rw [← hR, sortE, if_neg (by decide), if_pos rfl, hN]
    cases lookN ns ss n N <;> rfl
  rw [hR]
  obtain ⟨W, hW⟩ : ∃ W, (w.alloc (.cells #[.int .i64 2, .string ⟨n.toArray⟩, .int .i64 s, .int .i64 vn, .string ⟨x.toArray⟩, .slice A L cap] 26)) = W := ⟨_, rfl⟩
  have hba : Below w.heap.size w W := by rw [← hW]; go_grown
  have HB : Hid (W.cell? ⟨w.heap.size, 1, none⟩ = some (.string ⟨n.toArray⟩)) := by
    show _ = _
    rw [← hW]
    simp [go_sem]
  have HW := Lib.hid hW
  clear hR hk hv hN hl hW
  go_enter Tryd.func9, Tryd.ntmps9
  go_wp2_with fail
  try rw [HW.out]
  clear HW
  go_loopw [8, 9, 10] (fun zv ov i wr => ∃ (j : Nat) (z : Int) (ok : Bool), j ≤ N ∧ i = .int .i64 j ∧ zv = .int .i64 z ∧ ov = .bool ok ∧ Hid (lookN ns ss n j = if ok = true then some z else none) ∧ Below W.heap.size W wr) (fun _ _ i _ => N - (intOf i).toNat)
  case atStart => exact ⟨0, 0, false, Nat.zero_le _, rfl, rfl, rfl, rfl, Below.refl _ _⟩
  case round =>
    obtain ⟨j, zz, ok, hj, rfl, rfl, rfl, hlk, hbw⟩ := hrel
    have hb3 := chain hba hbw
    have k1 := cell_keep HB.out hbw
    by_cases hjN : j < N
    · obtain ⟨y, hy⟩ : ∃ y, ns[j]? = some y := ⟨_, List.getElem?_eq_getElem (by rw [HN.out]; omega)⟩
      obtain ⟨z, hz⟩ : ∃ z, ss[j]? = some z := ⟨_, List.getElem?_eq_getElem (by rw [HSL.out, HN.out]; omega)⟩
      obtain ⟨A', c', e, -, h3⟩ := HNS.out
      injection e with e1 e2 e3
      obtain ⟨b, o, rfl, hr⟩ := h3 (by rw [HN.out]; omega)
      subst e1
      obtain ⟨A'', c'', e, -, h3'⟩ := HSS.out
      injection e with e1' e2' e3'
      obtain ⟨b', o', rfl, -, hr'⟩ := h3' (by rw [HSL.out, HN.out]; omega)
      subst e1'
      have y0 := cell_keep (hr j y hy) hb3
      have z0 := cell_keep (hr' j z hz) hb3
      have hst : lookN ns ss n (j + 1) = if y = n then some z else lookN ns ss n j := by
        rw [lookN]
        simp only [List.getD, hy, hz, Option.getD_some]
      clear e2 e3 e2' e3' hr hr' h3 h3' hy hz
      by_cases hyn : y = n
      · rw [if_pos hyn] at hst
        have HST := Lib.hid hst
        subst hyn
        clear hlk hst
        go_wp2_with fail
        go_quiet (fail)
        have z1 : (wr.drewN nq).cell? ⟨b', o' + j, none⟩ = some (.int .i64 z) := z0
        have hb4 := below_drewN hbw nq
        clear y0 z0 k1 hb3 hbw
        generalize wr.drewN nq = w2 at z1 hb4 ⊢
        go_wp2_with fail
        go_roundw
        case rel => exact ⟨j + 1, z, true, by omega, by go_num, rfl, rfl, Lib.hid (by rw [HST.out]; rfl), hb4⟩
        case measure => simp [intOf] <;> omega
      · rw [if_neg hyn, hlk.out] at hst
        have HST := Lib.hid hst
        have hyb : (y == n) = false := by rw [beq_eq_false_iff_ne]; exact hyn
        clear hyn hst hlk
        go_wp2_with fail
        go_quiet (fail)
        have hb4 := below_drewN hbw nq
        clear y0 z0 k1 hb3 hbw
        generalize wr.drewN nq = w2 at hb4 ⊢
        go_wp2_with fail
        go_roundw
        case rel => exact ⟨j + 1, zz, ok, by omega, by go_num, rfl, rfl, HST, hb4⟩
        case measure => simp [intOf] <;> omega
    · obtain rfl : j = N := by omega
      cases ok with
      | true =>
        have HRR : Hid ((zz, 0) = R) := by
          have := HR.out
          rw [hlk.out] at this
          exact this
        clear HR hlk
        go_wp2_with fail
        go_ret2
        exact ⟨by rw [← HRR.out]; rfl, hb3⟩
      | false =>
        have HRR : Hid ((0, 4) = R) := by
          have := HR.out
          rw [hlk.out] at this
          exact this
        clear HR hlk
        go_wp2_with fail
        go_ret2
        exact ⟨by rw [← HRR.out]; rfl, hb3⟩
set_option maxHeartbeats 4000000 in
theorem sof_op_or (m : Nat) (ih : GIH m) (ns : List Str) (ss : List Int) (nv sv : Value)  (s vn : Int) (x : Str) (ks : List Ex) (v : Value) (w : World) (hm : eparts (.mk 3 [111, 114] s vn x ks) ≤ m + 1) (hv : ExV All w v (.mk 3 [111, 114] s vn x ks)) (hf : ExFit 1048576 (.mk 3 [111, 114] s vn x ks)) (hE : Env w nv sv ns ss) (hg : ∀ c ∈ ks, GoodE c) : SortSays 9 ns ss nv sv (.mk 3 [111, 114] s vn x ks) v w := by
  unfold SortSays
  obtain ⟨A, L, cap, rfl, hk⟩ := hv.one'
  simp only [Ex.kind_mk, Ex.name_mk, Ex.vs_mk, Ex.vn_mk, Ex.vt_mk, Ex.kids_mk] at hk ⊢
  have hLL : L = ks.length := by obtain ⟨A', c', e, -, -⟩ := hk; injection e
  have hLe := Lib.hid hLL
  have hkl : ks.length ≤ 1048576 := hf.parts.2.2.2.2.2.1
  have hLb : L ≤ 1048576 := by omega
  have HF := Lib.hid hf.parts.2.2.2.2.2.2
  have HEN := Lib.hid hE
  obtain ⟨A1, c1, e1, -, -⟩ := hE.n
  obtain ⟨A2, c2, e2, -, -⟩ := hE.s
  subst e1 e2
  have HK := Lib.hid hk
  obtain ⟨R, hR⟩ : ∃ R, sortE ns ss (.mk 3 [111, 114] s vn x ks) = R := ⟨_, rfl⟩
  have HR : Hid (sortEs ns ss (takesOut [111, 114]) ks (if takesIn [111, 114] = 0 then none else some (takesIn [111, 114])) = R) := by
    show _ = _
    rw [← hR, sortE, if_neg (show ¬ (3 : Int) = 1 by decide), if_neg (show ¬ (3 : Int) = 2 by decide)]
  rw [hR]
  have hmk : Hid (∀ c ∈ ks, eparts c ≤ m) := Lib.hid (fun c hc => by have h1 := eparts_at hc; simp only [eparts] at hm; omega)
  obtain ⟨W, hW⟩ : ∃ W, (w.alloc (.cells #[.int .i64 3, .string ⟨[111, 114].toArray⟩, .int .i64 s, .int .i64 vn, .string ⟨x.toArray⟩, .slice A L cap] 26)) = W := ⟨_, rfl⟩
  have hba : Below w.heap.size w W := by rw [← hW]; go_grown
  have HW := Lib.hid hW
  have HB : Hid (ExBox W w.heap.size (.mk 3 [111, 114] s vn x ks) (.slice A L cap)) := by
    show ExBox _ _ _ _
    rw [← hW]
    exact new_exval w (.mk 3 [111, 114] s vn x ks) _ _
  have hTI : takesIn [111, 114] = 2 := by decide
  have hTO : takesOut [111, 114] = 2 := by decide
  rw [hTI, hTO] at HR
  have hg := Lib.hid hg
  clear hR hv hf hE hm hLL hk hkl hW hTI hTO
  go_enter Tryd.func9, Tryd.ntmps9
  go_wp2_with fail
  try rw [HW.out]
  clear HW
  have HB0 : Below W.heap.size W W := Below.refl _ _
  rw [if_neg (by decide)] at HR
  go_loopw [15] (fun i wr => ∃ j : Nat, j ≤ L ∧ i = .int .i64 j ∧ Hid (sortEs ns ss 2 (ks.drop j) (some 2) = R) ∧ Below W.heap.size W wr) (fun i _ => L - (intOf i).toNat)
  case atStart => exact ⟨0, Nat.zero_le _, rfl, HR, HB0⟩
  case round =>
    clear HR HB0
    obtain ⟨j, hj, rfl, hs, hbw⟩ := hrel
    have hb3 := chain hba hbw
    have k5 := cell_keep HB.out.c5 hbw
    by_cases hlt : j < L
    · obtain ⟨c, hc'⟩ : ∃ y, ks[j]? = some y := ⟨_, List.getElem?_eq_getElem (by have := hLe.out; omega)⟩
      have HC' := Lib.hid hc'
      obtain ⟨-, -, b, off, A3, n3, p3, eA, -, y0, y1, y2, y3, y4, y5, hk'⟩ := exkid_at (HK.out.below hb3) hc'
      cases eA
      have HK' := Lib.hid hk'
      obtain ⟨Q, hQ⟩ : ∃ Q, sortE ns ss c = Q := ⟨_, rfl⟩
      have hstep := hs.out
      rw [sortEs_drop HC'.out, hQ] at hstep
      have hcall := ih ns ss (.slice A1 ns.length c1) (.slice A2 ss.length c2) c (.agg #[.int .i64 c.kind, .string ⟨c.name.toArray⟩, .int .i64 c.vs, .int .i64 c.vn, .string ⟨c.vt.toArray⟩, .slice A3 n3 p3]) wr (hmk.out c (mem_of_at HC'.out)) (exV_of HK'.out) (HF.out c (mem_of_at HC'.out)) (hg.out c (mem_of_at HC'.out)) (HEN.out.below hb3)
      unfold SortSays at hcall
      rw [hQ] at hcall
      have HCALL := Lib.hid hcall
      clear hQ hcall hs hk' hc'
      by_cases he : Q.2 = 0
      · rw [if_neg (by simp [he])] at hstep
        have hE : (Q.2 != 0) = false := by rw [bne_eq_false_iff_eq]; exact he
        dsimp only at hstep
        by_cases hq : Q.1 = 2
        · rw [if_pos hq] at hstep
          have hqn : (Q.1 != 2) = false := by rw [bne_eq_false_iff_eq]; exact hq
          have HST := Lib.hid hstep
          clear hstep he hq
          go_wp2_with fail
          refine HCALL.out.mono ?_
          rintro e w2 ⟨rfl, hb6⟩
          go_wp2_with fail
          go_roundw
          case rel => exact ⟨j + 1, by omega, by go_num, HST, hbw.trans (hb6.mono hbw.size)⟩
          case measure => simp [intOf] <;> omega
        · rw [if_neg hq] at hstep
          have hqn : (Q.1 != 2) = true := by rw [bne_iff_ne]; exact hq
          have HST := Lib.hid hstep
          clear hstep he hq
          go_wp2_with fail
          refine HCALL.out.mono ?_
          rintro e w2 ⟨rfl, hb6⟩
          go_wp2_with fail
          go_ret2
          exact ⟨by rw [← HST.out]; rfl, hb3.trans (hb6.mono hb3.size)⟩
      · rw [if_pos he] at hstep
        have HST := Lib.hid hstep
        have hE : (Q.2 != 0) = true := by rw [bne_iff_ne]; exact he
        clear hstep he
        go_wp2_with fail
        refine HCALL.out.mono ?_
        rintro e w2 ⟨rfl, hb6⟩
        go_wp2_with fail
        go_ret2
        exact ⟨by rw [← HST.out]; rfl, hb3.trans (hb6.mono hb3.size)⟩
    · have hend := hs.out
      rw [List.drop_of_length_le (by have := hLe.out; omega)] at hend
      have HE : Hid ((2, 0) = R) := by
        show _ = _
        rw [← hend]
        rfl
      clear hend hs
      go_wp2_with fail
      go_ret2
      exact ⟨by rw [← HE.out]; rfl, hb3⟩
set_option maxHeartbeats 4000000 in
theorem sof_op_and (m : Nat) (ih : GIH m) (ns : List Str) (ss : List Int) (nv sv : Value)  (s vn : Int) (x : Str) (ks : List Ex) (v : Value) (w : World) (hm : eparts (.mk 3 [97, 110, 100] s vn x ks) ≤ m + 1) (hv : ExV All w v (.mk 3 [97, 110, 100] s vn x ks)) (hf : ExFit 1048576 (.mk 3 [97, 110, 100] s vn x ks)) (hE : Env w nv sv ns ss) (hg : ∀ c ∈ ks, GoodE c) : SortSays 9 ns ss nv sv (.mk 3 [97, 110, 100] s vn x ks) v w := by
  unfold SortSays
  obtain ⟨A, L, cap, rfl, hk⟩ := hv.one'
  simp only [Ex.kind_mk, Ex.name_mk, Ex.vs_mk, Ex.vn_mk, Ex.vt_mk, Ex.kids_mk] at hk ⊢
  have hLL : L = ks.length := by obtain ⟨A', c', e, -, -⟩ := hk; injection e
  have hLe := Lib.hid hLL
  have hkl : ks.length ≤ 1048576 := hf.parts.2.2.2.2.2.1
  have hLb : L ≤ 1048576 := by omega
  have HF := Lib.hid hf.parts.2.2.2.2.2.2
  have HEN := Lib.hid hE
  obtain ⟨A1, c1, e1, -, -⟩ := hE.n
  obtain ⟨A2, c2, e2, -, -⟩ := hE.s
  subst e1 e2
  have HK := Lib.hid hk
  obtain ⟨R, hR⟩ : ∃ R, sortE ns ss (.mk 3 [97, 110, 100] s vn x ks) = R := ⟨_, rfl⟩
  have HR : Hid (sortEs ns ss (takesOut [97, 110, 100]) ks (if takesIn [97, 110, 100] = 0 then none else some (takesIn [97, 110, 100])) = R) := by
    show _ = _
    rw [← hR, sortE, if_neg (show ¬ (3 : Int) = 1 by decide), if_neg (show ¬ (3 : Int) = 2 by decide)]
  rw [hR]
  have hmk : Hid (∀ c ∈ ks, eparts c ≤ m) := Lib.hid (fun c hc => by have h1 := eparts_at hc; simp only [eparts] at hm; omega)
  obtain ⟨W, hW⟩ : ∃ W, (w.alloc (.cells #[.int .i64 3, .string ⟨[97, 110, 100].toArray⟩, .int .i64 s, .int .i64 vn, .string ⟨x.toArray⟩, .slice A L cap] 26)) = W := ⟨_, rfl⟩
  have hba : Below w.heap.size w W := by rw [← hW]; go_grown
  have HW := Lib.hid hW
  have HB : Hid (ExBox W w.heap.size (.mk 3 [97, 110, 100] s vn x ks) (.slice A L cap)) := by
    show ExBox _ _ _ _
    rw [← hW]
    exact new_exval w (.mk 3 [97, 110, 100] s vn x ks) _ _
  have hTI : takesIn [97, 110, 100] = 2 := by decide
  have hTO : takesOut [97, 110, 100] = 2 := by decide
  rw [hTI, hTO] at HR
  have hg := Lib.hid hg
  clear hR hv hf hE hm hLL hk hkl hW hTI hTO
  go_enter Tryd.func9, Tryd.ntmps9
  go_wp2_with fail
  try rw [HW.out]
  clear HW
  have HB0 : Below W.heap.size W W := Below.refl _ _
  rw [if_neg (by decide)] at HR
  go_loopw [15] (fun i wr => ∃ j : Nat, j ≤ L ∧ i = .int .i64 j ∧ Hid (sortEs ns ss 2 (ks.drop j) (some 2) = R) ∧ Below W.heap.size W wr) (fun i _ => L - (intOf i).toNat)
  case atStart => exact ⟨0, Nat.zero_le _, rfl, HR, HB0⟩
  case round =>
    clear HR HB0
    obtain ⟨j, hj, rfl, hs, hbw⟩ := hrel
    have hb3 := chain hba hbw
    have k5 := cell_keep HB.out.c5 hbw
    by_cases hlt : j < L
    · obtain ⟨c, hc'⟩ : ∃ y, ks[j]? = some y := ⟨_, List.getElem?_eq_getElem (by have := hLe.out; omega)⟩
      have HC' := Lib.hid hc'
      obtain ⟨-, -, b, off, A3, n3, p3, eA, -, y0, y1, y2, y3, y4, y5, hk'⟩ := exkid_at (HK.out.below hb3) hc'
      cases eA
      have HK' := Lib.hid hk'
      obtain ⟨Q, hQ⟩ : ∃ Q, sortE ns ss c = Q := ⟨_, rfl⟩
      have hstep := hs.out
      rw [sortEs_drop HC'.out, hQ] at hstep
      have hcall := ih ns ss (.slice A1 ns.length c1) (.slice A2 ss.length c2) c (.agg #[.int .i64 c.kind, .string ⟨c.name.toArray⟩, .int .i64 c.vs, .int .i64 c.vn, .string ⟨c.vt.toArray⟩, .slice A3 n3 p3]) wr (hmk.out c (mem_of_at HC'.out)) (exV_of HK'.out) (HF.out c (mem_of_at HC'.out)) (hg.out c (mem_of_at HC'.out)) (HEN.out.below hb3)
      unfold SortSays at hcall
      rw [hQ] at hcall
      have HCALL := Lib.hid hcall
      clear hQ hcall hs hk' hc'
      by_cases he : Q.2 = 0
      · rw [if_neg (by simp [he])] at hstep
        have hE : (Q.2 != 0) = false := by rw [bne_eq_false_iff_eq]; exact he
        dsimp only at hstep
        by_cases hq : Q.1 = 2
        · rw [if_pos hq] at hstep
          have hqn : (Q.1 != 2) = false := by rw [bne_eq_false_iff_eq]; exact hq
          have HST := Lib.hid hstep
          clear hstep he hq
          go_wp2_with fail
          refine HCALL.out.mono ?_
          rintro e w2 ⟨rfl, hb6⟩
          go_wp2_with fail
          go_roundw
          case rel => exact ⟨j + 1, by omega, by go_num, HST, hbw.trans (hb6.mono hbw.size)⟩
          case measure => simp [intOf] <;> omega
        · rw [if_neg hq] at hstep
          have hqn : (Q.1 != 2) = true := by rw [bne_iff_ne]; exact hq
          have HST := Lib.hid hstep
          clear hstep he hq
          go_wp2_with fail
          refine HCALL.out.mono ?_
          rintro e w2 ⟨rfl, hb6⟩
          go_wp2_with fail
          go_ret2
          exact ⟨by rw [← HST.out]; rfl, hb3.trans (hb6.mono hb3.size)⟩
      · rw [if_pos he] at hstep
        have HST := Lib.hid hstep
        have hE : (Q.2 != 0) = true := by rw [bne_iff_ne]; exact he
        clear hstep he
        go_wp2_with fail
        refine HCALL.out.mono ?_
        rintro e w2 ⟨rfl, hb6⟩
        go_wp2_with fail
        go_ret2
        exact ⟨by rw [← HST.out]; rfl, hb3.trans (hb6.mono hb3.size)⟩
    · have hend := hs.out
      rw [List.drop_of_length_le (by have := hLe.out; omega)] at hend
      have HE : Hid ((2, 0) = R) := by
        show _ = _
        rw [← hend]
        rfl
      clear hend hs
      go_wp2_with fail
      go_ret2
      exact ⟨by rw [← HE.out]; rfl, hb3⟩
set_option maxHeartbeats 4000000 in
theorem sof_op_not (m : Nat) (ih : GIH m) (ns : List Str) (ss : List Int) (nv sv : Value)  (s vn : Int) (x : Str) (ks : List Ex) (v : Value) (w : World) (hm : eparts (.mk 3 [110, 111, 116] s vn x ks) ≤ m + 1) (hv : ExV All w v (.mk 3 [110, 111, 116] s vn x ks)) (hf : ExFit 1048576 (.mk 3 [110, 111, 116] s vn x ks)) (hE : Env w nv sv ns ss) (hg : ∀ c ∈ ks, GoodE c) : SortSays 9 ns ss nv sv (.mk 3 [110, 111, 116] s vn x ks) v w := by
  unfold SortSays
  obtain ⟨A, L, cap, rfl, hk⟩ := hv.one'
  simp only [Ex.kind_mk, Ex.name_mk, Ex.vs_mk, Ex.vn_mk, Ex.vt_mk, Ex.kids_mk] at hk ⊢
  have hLL : L = ks.length := by obtain ⟨A', c', e, -, -⟩ := hk; injection e
  have hLe := Lib.hid hLL
  have hkl : ks.length ≤ 1048576 := hf.parts.2.2.2.2.2.1
  have hLb : L ≤ 1048576 := by omega
  have HF := Lib.hid hf.parts.2.2.2.2.2.2
  have HEN := Lib.hid hE
  obtain ⟨A1, c1, e1, -, -⟩ := hE.n
  obtain ⟨A2, c2, e2, -, -⟩ := hE.s
  subst e1 e2
  have HK := Lib.hid hk
  obtain ⟨R, hR⟩ : ∃ R, sortE ns ss (.mk 3 [110, 111, 116] s vn x ks) = R := ⟨_, rfl⟩
  have HR : Hid (sortEs ns ss (takesOut [110, 111, 116]) ks (if takesIn [110, 111, 116] = 0 then none else some (takesIn [110, 111, 116])) = R) := by
    show _ = _
    rw [← hR, sortE, if_neg (show ¬ (3 : Int) = 1 by decide), if_neg (show ¬ (3 : Int) = 2 by decide)]
  rw [hR]
  have hmk : Hid (∀ c ∈ ks, eparts c ≤ m) := Lib.hid (fun c hc => by have h1 := eparts_at hc; simp only [eparts] at hm; omega)
  obtain ⟨W, hW⟩ : ∃ W, (w.alloc (.cells #[.int .i64 3, .string ⟨[110, 111, 116].toArray⟩, .int .i64 s, .int .i64 vn, .string ⟨x.toArray⟩, .slice A L cap] 26)) = W := ⟨_, rfl⟩
  have hba : Below w.heap.size w W := by rw [← hW]; go_grown
  have HW := Lib.hid hW
  have HB : Hid (ExBox W w.heap.size (.mk 3 [110, 111, 116] s vn x ks) (.slice A L cap)) := by
    show ExBox _ _ _ _
    rw [← hW]
    exact new_exval w (.mk 3 [110, 111, 116] s vn x ks) _ _
  have hTI : takesIn [110, 111, 116] = 2 := by decide
  have hTO : takesOut [110, 111, 116] = 2 := by decide
  rw [hTI, hTO] at HR
  have hg := Lib.hid hg
  clear hR hv hf hE hm hLL hk hkl hW hTI hTO
  go_enter Tryd.func9, Tryd.ntmps9
  go_wp2_with fail
  try rw [HW.out]
  clear HW
  have HB0 : Below W.heap.size W W := Below.refl _ _
  rw [if_neg (by decide)] at HR
  go_loopw [15] (fun i wr => ∃ j : Nat, j ≤ L ∧ i = .int .i64 j ∧ Hid (sortEs ns ss 2 (ks.drop j) (some 2) = R) ∧ Below W.heap.size W wr) (fun i _ => L - (intOf i).toNat)
  case atStart => exact ⟨0, Nat.zero_le _, rfl, HR, HB0⟩
  case round =>
    clear HR HB0
    obtain ⟨j, hj, rfl, hs, hbw⟩ := hrel
    have hb3 := chain hba hbw
    have k5 := cell_keep HB.out.c5 hbw
    by_cases hlt : j < L
    · obtain ⟨c, hc'⟩ : ∃ y, ks[j]? = some y := ⟨_, List.getElem?_eq_getElem (by have := hLe.out; omega)⟩
      have HC' := Lib.hid hc'
      obtain ⟨-, -, b, off, A3, n3, p3, eA, -, y0, y1, y2, y3, y4, y5, hk'⟩ := exkid_at (HK.out.below hb3) hc'
      cases eA
      have HK' := Lib.hid hk'
      obtain ⟨Q, hQ⟩ : ∃ Q, sortE ns ss c = Q := ⟨_, rfl⟩
      have hstep := hs.out
      rw [sortEs_drop HC'.out, hQ] at hstep
      have hcall := ih ns ss (.slice A1 ns.length c1) (.slice A2 ss.length c2) c (.agg #[.int .i64 c.kind, .string ⟨c.name.toArray⟩, .int .i64 c.vs, .int .i64 c.vn, .string ⟨c.vt.toArray⟩, .slice A3 n3 p3]) wr (hmk.out c (mem_of_at HC'.out)) (exV_of HK'.out) (HF.out c (mem_of_at HC'.out)) (hg.out c (mem_of_at HC'.out)) (HEN.out.below hb3)
      unfold SortSays at hcall
      rw [hQ] at hcall
      have HCALL := Lib.hid hcall
      clear hQ hcall hs hk' hc'
      by_cases he : Q.2 = 0
      · rw [if_neg (by simp [he])] at hstep
        have hE : (Q.2 != 0) = false := by rw [bne_eq_false_iff_eq]; exact he
        dsimp only at hstep
        by_cases hq : Q.1 = 2
        · rw [if_pos hq] at hstep
          have hqn : (Q.1 != 2) = false := by rw [bne_eq_false_iff_eq]; exact hq
          have HST := Lib.hid hstep
          clear hstep he hq
          go_wp2_with fail
          refine HCALL.out.mono ?_
          rintro e w2 ⟨rfl, hb6⟩
          go_wp2_with fail
          go_roundw
          case rel => exact ⟨j + 1, by omega, by go_num, HST, hbw.trans (hb6.mono hbw.size)⟩
          case measure => simp [intOf] <;> omega
        · rw [if_neg hq] at hstep
          have hqn : (Q.1 != 2) = true := by rw [bne_iff_ne]; exact hq
          have HST := Lib.hid hstep
          clear hstep he hq
          go_wp2_with fail
          refine HCALL.out.mono ?_
          rintro e w2 ⟨rfl, hb6⟩
          go_wp2_with fail
          go_ret2
          exact ⟨by rw [← HST.out]; rfl, hb3.trans (hb6.mono hb3.size)⟩
      · rw [if_pos he] at hstep
        have HST := Lib.hid hstep
        have hE : (Q.2 != 0) = true := by rw [bne_iff_ne]; exact he
        clear hstep he
        go_wp2_with fail
        refine HCALL.out.mono ?_
        rintro e w2 ⟨rfl, hb6⟩
        go_wp2_with fail
        go_ret2
        exact ⟨by rw [← HST.out]; rfl, hb3.trans (hb6.mono hb3.size)⟩
    · have hend := hs.out
      rw [List.drop_of_length_le (by have := hLe.out; omega)] at hend
      have HE : Hid ((2, 0) = R) := by
        show _ = _
        rw [← hend]
        rfl
      clear hend hs
      go_wp2_with fail
      go_ret2
      exact ⟨by rw [← HE.out]; rfl, hb3⟩
set_option maxHeartbeats 4000000 in
theorem sof_op_cat (m : Nat) (ih : GIH m) (ns : List Str) (ss : List Int) (nv sv : Value)  (s vn : Int) (x : Str) (ks : List Ex) (v : Value) (w : World) (hm : eparts (.mk 3 [43, 43] s vn x ks) ≤ m + 1) (hv : ExV All w v (.mk 3 [43, 43] s vn x ks)) (hf : ExFit 1048576 (.mk 3 [43, 43] s vn x ks)) (hE : Env w nv sv ns ss) (hg : ∀ c ∈ ks, GoodE c) : SortSays 9 ns ss nv sv (.mk 3 [43, 43] s vn x ks) v w := by
  unfold SortSays
  obtain ⟨A, L, cap, rfl, hk⟩ := hv.one'
  simp only [Ex.kind_mk, Ex.name_mk, Ex.vs_mk, Ex.vn_mk, Ex.vt_mk, Ex.kids_mk] at hk ⊢
  have hLL : L = ks.length := by obtain ⟨A', c', e, -, -⟩ := hk; injection e
  have hLe := Lib.hid hLL
  have hkl : ks.length ≤ 1048576 := hf.parts.2.2.2.2.2.1
  have hLb : L ≤ 1048576 := by omega
  have HF := Lib.hid hf.parts.2.2.2.2.2.2
  have HEN := Lib.hid hE
  obtain ⟨A1, c1, e1, -, -⟩ := hE.n
  obtain ⟨A2, c2, e2, -, -⟩ := hE.s
  subst e1 e2
  have HK := Lib.hid hk
  obtain ⟨R, hR⟩ : ∃ R, sortE ns ss (.mk 3 [43, 43] s vn x ks) = R := ⟨_, rfl⟩
  have HR : Hid (sortEs ns ss (takesOut [43, 43]) ks (if takesIn [43, 43] = 0 then none else some (takesIn [43, 43])) = R) := by
    show _ = _
    rw [← hR, sortE, if_neg (show ¬ (3 : Int) = 1 by decide), if_neg (show ¬ (3 : Int) = 2 by decide)]
  rw [hR]
  have hmk : Hid (∀ c ∈ ks, eparts c ≤ m) := Lib.hid (fun c hc => by have h1 := eparts_at hc; simp only [eparts] at hm; omega)
  obtain ⟨W, hW⟩ : ∃ W, (w.alloc (.cells #[.int .i64 3, .string ⟨[43, 43].toArray⟩, .int .i64 s, .int .i64 vn, .string ⟨x.toArray⟩, .slice A L cap] 26)) = W := ⟨_, rfl⟩
  have hba : Below w.heap.size w W := by rw [← hW]; go_grown
  have HW := Lib.hid hW
  have HB : Hid (ExBox W w.heap.size (.mk 3 [43, 43] s vn x ks) (.slice A L cap)) := by
    show ExBox _ _ _ _
    rw [← hW]
    exact new_exval w (.mk 3 [43, 43] s vn x ks) _ _
  have hTI : takesIn [43, 43] = 3 := by decide
  have hTO : takesOut [43, 43] = 3 := by decide
  rw [hTI, hTO] at HR
  have hg := Lib.hid hg
  clear hR hv hf hE hm hLL hk hkl hW hTI hTO
  go_enter Tryd.func9, Tryd.ntmps9
  go_wp2_with fail
  try rw [HW.out]
  clear HW
  have HB0 : Below W.heap.size W W := Below.refl _ _
  rw [if_neg (by decide)] at HR
  go_loopw [15] (fun i wr => ∃ j : Nat, j ≤ L ∧ i = .int .i64 j ∧ Hid (sortEs ns ss 3 (ks.drop j) (some 3) = R) ∧ Below W.heap.size W wr) (fun i _ => L - (intOf i).toNat)
  case atStart => exact ⟨0, Nat.zero_le _, rfl, HR, HB0⟩
  case round =>
    clear HR HB0
    obtain ⟨j, hj, rfl, hs, hbw⟩ := hrel
    have hb3 := chain hba hbw
    have k5 := cell_keep HB.out.c5 hbw
    by_cases hlt : j < L
    · obtain ⟨c, hc'⟩ : ∃ y, ks[j]? = some y := ⟨_, List.getElem?_eq_getElem (by have := hLe.out; omega)⟩
      have HC' := Lib.hid hc'
      obtain ⟨-, -, b, off, A3, n3, p3, eA, -, y0, y1, y2, y3, y4, y5, hk'⟩ := exkid_at (HK.out.below hb3) hc'
      cases eA
      have HK' := Lib.hid hk'
      obtain ⟨Q, hQ⟩ : ∃ Q, sortE ns ss c = Q := ⟨_, rfl⟩
      have hstep := hs.out
      rw [sortEs_drop HC'.out, hQ] at hstep
      have hcall := ih ns ss (.slice A1 ns.length c1) (.slice A2 ss.length c2) c (.agg #[.int .i64 c.kind, .string ⟨c.name.toArray⟩, .int .i64 c.vs, .int .i64 c.vn, .string ⟨c.vt.toArray⟩, .slice A3 n3 p3]) wr (hmk.out c (mem_of_at HC'.out)) (exV_of HK'.out) (HF.out c (mem_of_at HC'.out)) (hg.out c (mem_of_at HC'.out)) (HEN.out.below hb3)
      unfold SortSays at hcall
      rw [hQ] at hcall
      have HCALL := Lib.hid hcall
      clear hQ hcall hs hk' hc'
      by_cases he : Q.2 = 0
      · rw [if_neg (by simp [he])] at hstep
        have hE : (Q.2 != 0) = false := by rw [bne_eq_false_iff_eq]; exact he
        dsimp only at hstep
        by_cases hq : Q.1 = 3
        · rw [if_pos hq] at hstep
          have hqn : (Q.1 != 3) = false := by rw [bne_eq_false_iff_eq]; exact hq
          have HST := Lib.hid hstep
          clear hstep he hq
          go_wp2_with fail
          refine HCALL.out.mono ?_
          rintro e w2 ⟨rfl, hb6⟩
          go_wp2_with fail
          go_roundw
          case rel => exact ⟨j + 1, by omega, by go_num, HST, hbw.trans (hb6.mono hbw.size)⟩
          case measure => simp [intOf] <;> omega
        · rw [if_neg hq] at hstep
          have hqn : (Q.1 != 3) = true := by rw [bne_iff_ne]; exact hq
          have HST := Lib.hid hstep
          clear hstep he hq
          go_wp2_with fail
          refine HCALL.out.mono ?_
          rintro e w2 ⟨rfl, hb6⟩
          go_wp2_with fail
          go_ret2
          exact ⟨by rw [← HST.out]; rfl, hb3.trans (hb6.mono hb3.size)⟩
      · rw [if_pos he] at hstep
        have HST := Lib.hid hstep
        have hE : (Q.2 != 0) = true := by rw [bne_iff_ne]; exact he
        clear hstep he
        go_wp2_with fail
        refine HCALL.out.mono ?_
        rintro e w2 ⟨rfl, hb6⟩
        go_wp2_with fail
        go_ret2
        exact ⟨by rw [← HST.out]; rfl, hb3.trans (hb6.mono hb3.size)⟩
    · have hend := hs.out
      rw [List.drop_of_length_le (by have := hLe.out; omega)] at hend
      have HE : Hid ((3, 0) = R) := by
        show _ = _
        rw [← hend]
        rfl
      clear hend hs
      go_wp2_with fail
      go_ret2
      exact ⟨by rw [← HE.out]; rfl, hb3⟩
set_option maxHeartbeats 4000000 in
theorem sof_op_len (m : Nat) (ih : GIH m) (ns : List Str) (ss : List Int) (nv sv : Value)  (s vn : Int) (x : Str) (ks : List Ex) (v : Value) (w : World) (hm : eparts (.mk 3 [35] s vn x ks) ≤ m + 1) (hv : ExV All w v (.mk 3 [35] s vn x ks)) (hf : ExFit 1048576 (.mk 3 [35] s vn x ks)) (hE : Env w nv sv ns ss) (hg : ∀ c ∈ ks, GoodE c) : SortSays 9 ns ss nv sv (.mk 3 [35] s vn x ks) v w := by
  unfold SortSays
  obtain ⟨A, L, cap, rfl, hk⟩ := hv.one'
  simp only [Ex.kind_mk, Ex.name_mk, Ex.vs_mk, Ex.vn_mk, Ex.vt_mk, Ex.kids_mk] at hk ⊢
  have hLL : L = ks.length := by obtain ⟨A', c', e, -, -⟩ := hk; injection e
  have hLe := Lib.hid hLL
  have hkl : ks.length ≤ 1048576 := hf.parts.2.2.2.2.2.1
  have hLb : L ≤ 1048576 := by omega
  have HF := Lib.hid hf.parts.2.2.2.2.2.2
  have HEN := Lib.hid hE
  obtain ⟨A1, c1, e1, -, -⟩ := hE.n
  obtain ⟨A2, c2, e2, -, -⟩ := hE.s
  subst e1 e2
  have HK := Lib.hid hk
  obtain ⟨R, hR⟩ : ∃ R, sortE ns ss (.mk 3 [35] s vn x ks) = R := ⟨_, rfl⟩
  have HR : Hid (sortEs ns ss (takesOut [35]) ks (if takesIn [35] = 0 then none else some (takesIn [35])) = R) := by
    show _ = _
    rw [← hR, sortE, if_neg (show ¬ (3 : Int) = 1 by decide), if_neg (show ¬ (3 : Int) = 2 by decide)]
  rw [hR]
  have hmk : Hid (∀ c ∈ ks, eparts c ≤ m) := Lib.hid (fun c hc => by have h1 := eparts_at hc; simp only [eparts] at hm; omega)
  obtain ⟨W, hW⟩ : ∃ W, (w.alloc (.cells #[.int .i64 3, .string ⟨[35].toArray⟩, .int .i64 s, .int .i64 vn, .string ⟨x.toArray⟩, .slice A L cap] 26)) = W := ⟨_, rfl⟩
  have hba : Below w.heap.size w W := by rw [← hW]; go_grown
  have HW := Lib.hid hW
  have HB : Hid (ExBox W w.heap.size (.mk 3 [35] s vn x ks) (.slice A L cap)) := by
    show ExBox _ _ _ _
    rw [← hW]
    exact new_exval w (.mk 3 [35] s vn x ks) _ _
  have hTI : takesIn [35] = 3 := by decide
  have hTO : takesOut [35] = 1 := by decide
  rw [hTI, hTO] at HR
  have hg := Lib.hid hg
  clear hR hv hf hE hm hLL hk hkl hW hTI hTO
  go_enter Tryd.func9, Tryd.ntmps9
  go_wp2_with fail
  try rw [HW.out]
  clear HW
  have HB0 : Below W.heap.size W W := Below.refl _ _
  rw [if_neg (by decide)] at HR
  go_loopw [15] (fun i wr => ∃ j : Nat, j ≤ L ∧ i = .int .i64 j ∧ Hid (sortEs ns ss 1 (ks.drop j) (some 3) = R) ∧ Below W.heap.size W wr) (fun i _ => L - (intOf i).toNat)
  case atStart => exact ⟨0, Nat.zero_le _, rfl, HR, HB0⟩
  case round =>
    clear HR HB0
    obtain ⟨j, hj, rfl, hs, hbw⟩ := hrel
    have hb3 := chain hba hbw
    have k5 := cell_keep HB.out.c5 hbw
    by_cases hlt : j < L
    · obtain ⟨c, hc'⟩ : ∃ y, ks[j]? = some y := ⟨_, List.getElem?_eq_getElem (by have := hLe.out; omega)⟩
      have HC' := Lib.hid hc'
      obtain ⟨-, -, b, off, A3, n3, p3, eA, -, y0, y1, y2, y3, y4, y5, hk'⟩ := exkid_at (HK.out.below hb3) hc'
      cases eA
      have HK' := Lib.hid hk'
      obtain ⟨Q, hQ⟩ : ∃ Q, sortE ns ss c = Q := ⟨_, rfl⟩
      have hstep := hs.out
      rw [sortEs_drop HC'.out, hQ] at hstep
      have hcall := ih ns ss (.slice A1 ns.length c1) (.slice A2 ss.length c2) c (.agg #[.int .i64 c.kind, .string ⟨c.name.toArray⟩, .int .i64 c.vs, .int .i64 c.vn, .string ⟨c.vt.toArray⟩, .slice A3 n3 p3]) wr (hmk.out c (mem_of_at HC'.out)) (exV_of HK'.out) (HF.out c (mem_of_at HC'.out)) (hg.out c (mem_of_at HC'.out)) (HEN.out.below hb3)
      unfold SortSays at hcall
      rw [hQ] at hcall
      have HCALL := Lib.hid hcall
      clear hQ hcall hs hk' hc'
      by_cases he : Q.2 = 0
      · rw [if_neg (by simp [he])] at hstep
        have hE : (Q.2 != 0) = false := by rw [bne_eq_false_iff_eq]; exact he
        dsimp only at hstep
        by_cases hq : Q.1 = 3
        · rw [if_pos hq] at hstep
          have hqn : (Q.1 != 3) = false := by rw [bne_eq_false_iff_eq]; exact hq
          have HST := Lib.hid hstep
          clear hstep he hq
          go_wp2_with fail
          refine HCALL.out.mono ?_
          rintro e w2 ⟨rfl, hb6⟩
          go_wp2_with fail
          go_roundw
          case rel => exact ⟨j + 1, by omega, by go_num, HST, hbw.trans (hb6.mono hbw.size)⟩
          case measure => simp [intOf] <;> omega
        · rw [if_neg hq] at hstep
          have hqn : (Q.1 != 3) = true := by rw [bne_iff_ne]; exact hq
          have HST := Lib.hid hstep
          clear hstep he hq
          go_wp2_with fail
          refine HCALL.out.mono ?_
          rintro e w2 ⟨rfl, hb6⟩
          go_wp2_with fail
          go_ret2
          exact ⟨by rw [← HST.out]; rfl, hb3.trans (hb6.mono hb3.size)⟩
      · rw [if_pos he] at hstep
        have HST := Lib.hid hstep
        have hE : (Q.2 != 0) = true := by rw [bne_iff_ne]; exact he
        clear hstep he
        go_wp2_with fail
        refine HCALL.out.mono ?_
        rintro e w2 ⟨rfl, hb6⟩
        go_wp2_with fail
        go_ret2
        exact ⟨by rw [← HST.out]; rfl, hb3.trans (hb6.mono hb3.size)⟩
    · have hend := hs.out
      rw [List.drop_of_length_le (by have := hLe.out; omega)] at hend
      have HE : Hid ((1, 0) = R) := by
        show _ = _
        rw [← hend]
        rfl
      clear hend hs
      go_wp2_with fail
      go_ret2
      exact ⟨by rw [← HE.out]; rfl, hb3⟩
set_option maxHeartbeats 4000000 in
theorem sof_op_eq (m : Nat) (ih : GIH m) (ns : List Str) (ss : List Int) (nv sv : Value)  (s vn : Int) (x : Str) (ks : List Ex) (v : Value) (w : World) (hm : eparts (.mk 3 [61, 61] s vn x ks) ≤ m + 1) (hv : ExV All w v (.mk 3 [61, 61] s vn x ks)) (hf : ExFit 1048576 (.mk 3 [61, 61] s vn x ks)) (hE : Env w nv sv ns ss) (hg : ∀ c ∈ ks, GoodE c) (hL : 0 < ks.length) : SortSays 9 ns ss nv sv (.mk 3 [61, 61] s vn x ks) v w := by
  unfold SortSays
  obtain ⟨A, L, cap, rfl, hk⟩ := hv.one'
  simp only [Ex.kind_mk, Ex.name_mk, Ex.vs_mk, Ex.vn_mk, Ex.vt_mk, Ex.kids_mk] at hk ⊢
  have hLL : L = ks.length := by obtain ⟨A', c', e, -, -⟩ := hk; injection e
  have hLe := Lib.hid hLL
  have hkl : ks.length ≤ 1048576 := hf.parts.2.2.2.2.2.1
  have hLb : L ≤ 1048576 := by omega
  have HF := Lib.hid hf.parts.2.2.2.2.2.2
  have HEN := Lib.hid hE
  obtain ⟨A1, c1, e1, -, -⟩ := hE.n
  obtain ⟨A2, c2, e2, -, -⟩ := hE.s
  subst e1 e2
  have HK := Lib.hid hk
  obtain ⟨R, hR⟩ : ∃ R, sortE ns ss (.mk 3 [61, 61] s vn x ks) = R := ⟨_, rfl⟩
  have HR : Hid (sortEs ns ss (takesOut [61, 61]) ks (if takesIn [61, 61] = 0 then none else some (takesIn [61, 61])) = R) := by
    show _ = _
    rw [← hR, sortE, if_neg (show ¬ (3 : Int) = 1 by decide), if_neg (show ¬ (3 : Int) = 2 by decide)]
  rw [hR]
  have hmk : Hid (∀ c ∈ ks, eparts c ≤ m) := Lib.hid (fun c hc => by have h1 := eparts_at hc; simp only [eparts] at hm; omega)
  obtain ⟨W, hW⟩ : ∃ W, (w.alloc (.cells #[.int .i64 3, .string ⟨[61, 61].toArray⟩, .int .i64 s, .int .i64 vn, .string ⟨x.toArray⟩, .slice A L cap] 26)) = W := ⟨_, rfl⟩
  have hba : Below w.heap.size w W := by rw [← hW]; go_grown
  have HW := Lib.hid hW
  have HB : Hid (ExBox W w.heap.size (.mk 3 [61, 61] s vn x ks) (.slice A L cap)) := by
    show ExBox _ _ _ _
    rw [← hW]
    exact new_exval w (.mk 3 [61, 61] s vn x ks) _ _
  have hTI : takesIn [61, 61] = 0 := by decide
  have hTO : takesOut [61, 61] = 2 := by decide
  rw [hTI, hTO] at HR
  have hL0 : 0 < ks.length := by omega
  have hL1 : 0 < L := by have := hLe.out; omega
  obtain ⟨c0, hc0⟩ : ∃ y, ks[0]? = some y := ⟨_, List.getElem?_eq_getElem hL0⟩
  obtain ⟨-, -, b0, off0, A4, n4, p4, rfl, -, x0, x1, x2, x3, x4, x5, hk0⟩ := exkid_at HK.out hc0
  simp only [Nat.zero_mul, Nat.add_zero] at x0 x1 x2 x3 x4 x5
  have hbl := cell_lt x0
  obtain ⟨Q0, hQ0⟩ : ∃ Q, sortE ns ss c0 = Q := ⟨_, rfl⟩
  have hcall0 := ih ns ss (.slice A1 ns.length c1) (.slice A2 ss.length c2) c0 (.agg #[.int .i64 c0.kind, .string ⟨c0.name.toArray⟩, .int .i64 c0.vs, .int .i64 c0.vn, .string ⟨c0.vt.toArray⟩, .slice A4 n4 p4]) W (hmk.out c0 (mem_of_at hc0)) ((exV_of hk0).below hba) (HF.out c0 (mem_of_at hc0)) (hg c0 (mem_of_at hc0)) (HEN.out.below hba)
  unfold SortSays at hcall0
  rw [hQ0] at hcall0
  have HCALL0 := Lib.hid hcall0
  have hst0 := HR.out
  rw [if_pos rfl, ← List.drop_zero (l := ks)] at hst0
  have hst1 := sortEs_drop (ns := ns) (ss := ss) (out := 2) (q := none) hc0
  have HST1 := Lib.hid (hst1.symm.trans hst0)
  rw [hQ0] at HST1
  dsimp only at HST1
  have hst2 := sortEs_drop (ns := ns) (ss := ss) (out := 2) (q := some Q0.1) hc0
  rw [hQ0] at hst2
  dsimp only at hst2
  rw [if_pos rfl] at hst2
  have HST2 := Lib.hid hst2
  clear hcall0 hQ0 hk0 hc0 hL0 hst0 hst1 hst2 HR
  have hg := Lib.hid hg
  clear hR hv hf hE hm hLL hk hkl hW hTI hTO
  go_enter Tryd.func9, Tryd.ntmps9
  go_wp2_with fail
  try rw [HW.out]
  clear HW
  refine HCALL0.out.mono ?_
  clear HCALL0
  rintro e w1 ⟨rfl, hb0⟩
  by_cases he0 : Q0.2 = 0
  · have hE0 : (Q0.2 != 0) = false := by rw [bne_eq_false_iff_eq]; exact he0
    have HR : Hid (sortEs ns ss 2 (ks.drop 0) (some Q0.1) = R) := by
      show _ = _
      rw [HST2.out, if_neg (by simp [he0])]
      have := HST1.out
      rw [if_neg (by simp [he0])] at this
      exact this
    have HB0 := hb0
    have u5 := cell_keep HB.out.c5 hb0
    clear he0 HST1 HST2 hb0
    go_wp2_with fail
    go_loopw [15] (fun i wr => ∃ j : Nat, j ≤ L ∧ i = .int .i64 j ∧ Hid (sortEs ns ss 2 (ks.drop j) (some Q0.1) = R) ∧ Below W.heap.size W wr) (fun i _ => L - (intOf i).toNat)
    case atStart => exact ⟨0, Nat.zero_le _, rfl, HR, HB0⟩
    case round =>
      clear HR HB0
      obtain ⟨j, hj, rfl, hs, hbw⟩ := hrel
      have hb3 := chain hba hbw
      have k5 := cell_keep HB.out.c5 hbw
      by_cases hlt : j < L
      · obtain ⟨c, hc'⟩ : ∃ y, ks[j]? = some y := ⟨_, List.getElem?_eq_getElem (by have := hLe.out; omega)⟩
        have HC' := Lib.hid hc'
        obtain ⟨-, -, b, off, A3, n3, p3, eA, -, y0, y1, y2, y3, y4, y5, hk'⟩ := exkid_at (HK.out.below hb3) hc'
        cases eA
        have HK' := Lib.hid hk'
        obtain ⟨Q, hQ⟩ : ∃ Q, sortE ns ss c = Q := ⟨_, rfl⟩
        have hstep := hs.out
        rw [sortEs_drop HC'.out, hQ] at hstep
        have hcall := ih ns ss (.slice A1 ns.length c1) (.slice A2 ss.length c2) c (.agg #[.int .i64 c.kind, .string ⟨c.name.toArray⟩, .int .i64 c.vs, .int .i64 c.vn, .string ⟨c.vt.toArray⟩, .slice A3 n3 p3]) wr (hmk.out c (mem_of_at HC'.out)) (exV_of HK'.out) (HF.out c (mem_of_at HC'.out)) (hg.out c (mem_of_at HC'.out)) (HEN.out.below hb3)
        unfold SortSays at hcall
        rw [hQ] at hcall
        have HCALL := Lib.hid hcall
        clear hQ hcall hs hk' hc'
        by_cases he : Q.2 = 0
        · rw [if_neg (by simp [he])] at hstep
          have hE : (Q.2 != 0) = false := by rw [bne_eq_false_iff_eq]; exact he
          dsimp only at hstep
          by_cases hq : Q.1 = Q0.1
          · rw [if_pos hq] at hstep
            have hqn : (Q.1 != Q0.1) = false := by rw [bne_eq_false_iff_eq]; exact hq
            have HST := Lib.hid hstep
            clear hstep he hq
            go_wp2_with fail
            refine HCALL.out.mono ?_
            rintro e w2 ⟨rfl, hb6⟩
            go_wp2_with fail
            go_roundw
            case rel => exact ⟨j + 1, by omega, by go_num, HST, hbw.trans (hb6.mono hbw.size)⟩
            case measure => simp [intOf] <;> omega
          · rw [if_neg hq] at hstep
            have hqn : (Q.1 != Q0.1) = true := by rw [bne_iff_ne]; exact hq
            have HST := Lib.hid hstep
            clear hstep he hq
            go_wp2_with fail
            refine HCALL.out.mono ?_
            rintro e w2 ⟨rfl, hb6⟩
            go_wp2_with fail
            go_ret2
            exact ⟨by rw [← HST.out]; rfl, hb3.trans (hb6.mono hb3.size)⟩
        · rw [if_pos he] at hstep
          have HST := Lib.hid hstep
          have hE : (Q.2 != 0) = true := by rw [bne_iff_ne]; exact he
          clear hstep he
          go_wp2_with fail
          refine HCALL.out.mono ?_
          rintro e w2 ⟨rfl, hb6⟩
          go_wp2_with fail
          go_ret2
          exact ⟨by rw [← HST.out]; rfl, hb3.trans (hb6.mono hb3.size)⟩
      · have hend := hs.out
        rw [List.drop_of_length_le (by have := hLe.out; omega)] at hend
        have HE : Hid ((2, 0) = R) := by
          show _ = _
          rw [← hend]
          rfl
        clear hend hs
        go_wp2_with fail
        go_ret2
        exact ⟨by rw [← HE.out]; rfl, hb3⟩
  · have hE0 : (Q0.2 != 0) = true := by rw [bne_iff_ne]; exact he0
    have HRR := HST1.out
    rw [if_pos he0] at HRR
    have HRQ := Lib.hid HRR
    clear he0 HST1 HST2 HRR
    go_wp2_with fail
    go_ret2
    exact ⟨by rw [← HRQ.out]; rfl, chain hba hb0⟩
set_option maxHeartbeats 4000000 in
theorem sof_op_lt (m : Nat) (ih : GIH m) (ns : List Str) (ss : List Int) (nv sv : Value)  (s vn : Int) (x : Str) (ks : List Ex) (v : Value) (w : World) (hm : eparts (.mk 3 [60] s vn x ks) ≤ m + 1) (hv : ExV All w v (.mk 3 [60] s vn x ks)) (hf : ExFit 1048576 (.mk 3 [60] s vn x ks)) (hE : Env w nv sv ns ss) (hg : ∀ c ∈ ks, GoodE c) (hL : 0 < ks.length) : SortSays 9 ns ss nv sv (.mk 3 [60] s vn x ks) v w := by
  unfold SortSays
  obtain ⟨A, L, cap, rfl, hk⟩ := hv.one'
  simp only [Ex.kind_mk, Ex.name_mk, Ex.vs_mk, Ex.vn_mk, Ex.vt_mk, Ex.kids_mk] at hk ⊢
  have hLL : L = ks.length := by obtain ⟨A', c', e, -, -⟩ := hk; injection e
  have hLe := Lib.hid hLL
  have hkl : ks.length ≤ 1048576 := hf.parts.2.2.2.2.2.1
  have hLb : L ≤ 1048576 := by omega
  have HF := Lib.hid hf.parts.2.2.2.2.2.2
  have HEN := Lib.hid hE
  obtain ⟨A1, c1, e1, -, -⟩ := hE.n
  obtain ⟨A2, c2, e2, -, -⟩ := hE.s
  subst e1 e2
  have HK := Lib.hid hk
  obtain ⟨R, hR⟩ : ∃ R, sortE ns ss (.mk 3 [60] s vn x ks) = R := ⟨_, rfl⟩
  have HR : Hid (sortEs ns ss (takesOut [60]) ks (if takesIn [60] = 0 then none else some (takesIn [60])) = R) := by
    show _ = _
    rw [← hR, sortE, if_neg (show ¬ (3 : Int) = 1 by decide), if_neg (show ¬ (3 : Int) = 2 by decide)]
  rw [hR]
  have hmk : Hid (∀ c ∈ ks, eparts c ≤ m) := Lib.hid (fun c hc => by have h1 := eparts_at hc; simp only [eparts] at hm; omega)
  obtain ⟨W, hW⟩ : ∃ W, (w.alloc (.cells #[.int .i64 3, .string ⟨[60].toArray⟩, .int .i64 s, .int .i64 vn, .string ⟨x.toArray⟩, .slice A L cap] 26)) = W := ⟨_, rfl⟩
  have hba : Below w.heap.size w W := by rw [← hW]; go_grown
  have HW := Lib.hid hW
  have HB : Hid (ExBox W w.heap.size (.mk 3 [60] s vn x ks) (.slice A L cap)) := by
    show ExBox _ _ _ _
    rw [← hW]
    exact new_exval w (.mk 3 [60] s vn x ks) _ _
  have hTI : takesIn [60] = 0 := by decide
  have hTO : takesOut [60] = 2 := by decide
  rw [hTI, hTO] at HR
  have hL0 : 0 < ks.length := by omega
  have hL1 : 0 < L := by have := hLe.out; omega
  obtain ⟨c0, hc0⟩ : ∃ y, ks[0]? = some y := ⟨_, List.getElem?_eq_getElem hL0⟩
  obtain ⟨-, -, b0, off0, A4, n4, p4, rfl, -, x0, x1, x2, x3, x4, x5, hk0⟩ := exkid_at HK.out hc0
  simp only [Nat.zero_mul, Nat.add_zero] at x0 x1 x2 x3 x4 x5
  have hbl := cell_lt x0
  obtain ⟨Q0, hQ0⟩ : ∃ Q, sortE ns ss c0 = Q := ⟨_, rfl⟩
  have hcall0 := ih ns ss (.slice A1 ns.length c1) (.slice A2 ss.length c2) c0 (.agg #[.int .i64 c0.kind, .string ⟨c0.name.toArray⟩, .int .i64 c0.vs, .int .i64 c0.vn, .string ⟨c0.vt.toArray⟩, .slice A4 n4 p4]) W (hmk.out c0 (mem_of_at hc0)) ((exV_of hk0).below hba) (HF.out c0 (mem_of_at hc0)) (hg c0 (mem_of_at hc0)) (HEN.out.below hba)
  unfold SortSays at hcall0
  rw [hQ0] at hcall0
  have HCALL0 := Lib.hid hcall0
  have hst0 := HR.out
  rw [if_pos rfl, ← List.drop_zero (l := ks)] at hst0
  have hst1 := sortEs_drop (ns := ns) (ss := ss) (out := 2) (q := none) hc0
  have HST1 := Lib.hid (hst1.symm.trans hst0)
  rw [hQ0] at HST1
  dsimp only at HST1
  have hst2 := sortEs_drop (ns := ns) (ss := ss) (out := 2) (q := some Q0.1) hc0
  rw [hQ0] at hst2
  dsimp only at hst2
  rw [if_pos rfl] at hst2
  have HST2 := Lib.hid hst2
  clear hcall0 hQ0 hk0 hc0 hL0 hst0 hst1 hst2 HR
  have hg := Lib.hid hg
  clear hR hv hf hE hm hLL hk hkl hW hTI hTO
  go_enter Tryd.func9, Tryd.ntmps9
  go_wp2_with fail
  try rw [HW.out]
  clear HW
  refine HCALL0.out.mono ?_
  clear HCALL0
  rintro e w1 ⟨rfl, hb0⟩
  by_cases he0 : Q0.2 = 0
  · have hE0 : (Q0.2 != 0) = false := by rw [bne_eq_false_iff_eq]; exact he0
    have HR : Hid (sortEs ns ss 2 (ks.drop 0) (some Q0.1) = R) := by
      show _ = _
      rw [HST2.out, if_neg (by simp [he0])]
      have := HST1.out
      rw [if_neg (by simp [he0])] at this
      exact this
    have HB0 := hb0
    have u5 := cell_keep HB.out.c5 hb0
    clear he0 HST1 HST2 hb0
    go_wp2_with fail
    go_loopw [15] (fun i wr => ∃ j : Nat, j ≤ L ∧ i = .int .i64 j ∧ Hid (sortEs ns ss 2 (ks.drop j) (some Q0.1) = R) ∧ Below W.heap.size W wr) (fun i _ => L - (intOf i).toNat)
    case atStart => exact ⟨0, Nat.zero_le _, rfl, HR, HB0⟩
    case round =>
      clear HR HB0
      obtain ⟨j, hj, rfl, hs, hbw⟩ := hrel
      have hb3 := chain hba hbw
      have k5 := cell_keep HB.out.c5 hbw
      by_cases hlt : j < L
      · obtain ⟨c, hc'⟩ : ∃ y, ks[j]? = some y := ⟨_, List.getElem?_eq_getElem (by have := hLe.out; omega)⟩
        have HC' := Lib.hid hc'
        obtain ⟨-, -, b, off, A3, n3, p3, eA, -, y0, y1, y2, y3, y4, y5, hk'⟩ := exkid_at (HK.out.below hb3) hc'
        cases eA
        have HK' := Lib.hid hk'
        obtain ⟨Q, hQ⟩ : ∃ Q, sortE ns ss c = Q := ⟨_, rfl⟩
        have hstep := hs.out
        rw [sortEs_drop HC'.out, hQ] at hstep
        have hcall := ih ns ss (.slice A1 ns.length c1) (.slice A2 ss.length c2) c (.agg #[.int .i64 c.kind, .string ⟨c.name.toArray⟩, .int .i64 c.vs, .int .i64 c.vn, .string ⟨c.vt.toArray⟩, .slice A3 n3 p3]) wr (hmk.out c (mem_of_at HC'.out)) (exV_of HK'.out) (HF.out c (mem_of_at HC'.out)) (hg.out c (mem_of_at HC'.out)) (HEN.out.below hb3)
        unfold SortSays at hcall
        rw [hQ] at hcall
        have HCALL := Lib.hid hcall
        clear hQ hcall hs hk' hc'
        by_cases he : Q.2 = 0
        · rw [if_neg (by simp [he])] at hstep
          have hE : (Q.2 != 0) = false := by rw [bne_eq_false_iff_eq]; exact he
          dsimp only at hstep
          by_cases hq : Q.1 = Q0.1
          · rw [if_pos hq] at hstep
            have hqn : (Q.1 != Q0.1) = false := by rw [bne_eq_false_iff_eq]; exact hq
            have HST := Lib.hid hstep
            clear hstep he hq
            go_wp2_with fail
            refine HCALL.out.mono ?_
            rintro e w2 ⟨rfl, hb6⟩
            go_wp2_with fail
            go_roundw
            case rel => exact ⟨j + 1, by omega, by go_num, HST, hbw.trans (hb6.mono hbw.size)⟩
            case measure => simp [intOf] <;> omega
          · rw [if_neg hq] at hstep
            have hqn : (Q.1 != Q0.1) = true := by rw [bne_iff_ne]; exact hq
            have HST := Lib.hid hstep
            clear hstep he hq
            go_wp2_with fail
            refine HCALL.out.mono ?_
            rintro e w2 ⟨rfl, hb6⟩
            go_wp2_with fail
            go_ret2
            exact ⟨by rw [← HST.out]; rfl, hb3.trans (hb6.mono hb3.size)⟩
        · rw [if_pos he] at hstep
          have HST := Lib.hid hstep
          have hE : (Q.2 != 0) = true := by rw [bne_iff_ne]; exact he
          clear hstep he
          go_wp2_with fail
          refine HCALL.out.mono ?_
          rintro e w2 ⟨rfl, hb6⟩
          go_wp2_with fail
          go_ret2
          exact ⟨by rw [← HST.out]; rfl, hb3.trans (hb6.mono hb3.size)⟩
      · have hend := hs.out
        rw [List.drop_of_length_le (by have := hLe.out; omega)] at hend
        have HE : Hid ((2, 0) = R) := by
          show _ = _
          rw [← hend]
          rfl
        clear hend hs
        go_wp2_with fail
        go_ret2
        exact ⟨by rw [← HE.out]; rfl, hb3⟩
  · have hE0 : (Q0.2 != 0) = true := by rw [bne_iff_ne]; exact he0
    have HRR := HST1.out
    rw [if_pos he0] at HRR
    have HRQ := Lib.hid HRR
    clear he0 HST1 HST2 HRR
    go_wp2_with fail
    go_ret2
    exact ⟨by rw [← HRQ.out]; rfl, chain hba hb0⟩
set_option maxHeartbeats 4000000 in
theorem sof_op_le (m : Nat) (ih : GIH m) (ns : List Str) (ss : List Int) (nv sv : Value)  (s vn : Int) (x : Str) (ks : List Ex) (v : Value) (w : World) (hm : eparts (.mk 3 [60, 61] s vn x ks) ≤ m + 1) (hv : ExV All w v (.mk 3 [60, 61] s vn x ks)) (hf : ExFit 1048576 (.mk 3 [60, 61] s vn x ks)) (hE : Env w nv sv ns ss) (hg : ∀ c ∈ ks, GoodE c) (hL : 0 < ks.length) : SortSays 9 ns ss nv sv (.mk 3 [60, 61] s vn x ks) v w := by
  unfold SortSays
  obtain ⟨A, L, cap, rfl, hk⟩ := hv.one'
  simp only [Ex.kind_mk, Ex.name_mk, Ex.vs_mk, Ex.vn_mk, Ex.vt_mk, Ex.kids_mk] at hk ⊢
  have hLL : L = ks.length := by obtain ⟨A', c', e, -, -⟩ := hk; injection e
  have hLe := Lib.hid hLL
  have hkl : ks.length ≤ 1048576 := hf.parts.2.2.2.2.2.1
  have hLb : L ≤ 1048576 := by omega
  have HF := Lib.hid hf.parts.2.2.2.2.2.2
  have HEN := Lib.hid hE
  obtain ⟨A1, c1, e1, -, -⟩ := hE.n
  obtain ⟨A2, c2, e2, -, -⟩ := hE.s
  subst e1 e2
  have HK := Lib.hid hk
  obtain ⟨R, hR⟩ : ∃ R, sortE ns ss (.mk 3 [60, 61] s vn x ks) = R := ⟨_, rfl⟩
  have HR : Hid (sortEs ns ss (takesOut [60, 61]) ks (if takesIn [60, 61] = 0 then none else some (takesIn [60, 61])) = R) := by
    show _ = _
    rw [← hR, sortE, if_neg (show ¬ (3 : Int) = 1 by decide), if_neg (show ¬ (3 : Int) = 2 by decide)]
  rw [hR]
  have hmk : Hid (∀ c ∈ ks, eparts c ≤ m) := Lib.hid (fun c hc => by have h1 := eparts_at hc; simp only [eparts] at hm; omega)
  obtain ⟨W, hW⟩ : ∃ W, (w.alloc (.cells #[.int .i64 3, .string ⟨[60, 61].toArray⟩, .int .i64 s, .int .i64 vn, .string ⟨x.toArray⟩, .slice A L cap] 26)) = W := ⟨_, rfl⟩
  have hba : Below w.heap.size w W := by rw [← hW]; go_grown
  have HW := Lib.hid hW
  have HB : Hid (ExBox W w.heap.size (.mk 3 [60, 61] s vn x ks) (.slice A L cap)) := by
    show ExBox _ _ _ _
    rw [← hW]
    exact new_exval w (.mk 3 [60, 61] s vn x ks) _ _
  have hTI : takesIn [60, 61] = 0 := by decide
  have hTO : takesOut [60, 61] = 2 := by decide
  rw [hTI, hTO] at HR
  have hL0 : 0 < ks.length := by omega
  have hL1 : 0 < L := by have := hLe.out; omega
  obtain ⟨c0, hc0⟩ : ∃ y, ks[0]? = some y := ⟨_, List.getElem?_eq_getElem hL0⟩
  obtain ⟨-, -, b0, off0, A4, n4, p4, rfl, -, x0, x1, x2, x3, x4, x5, hk0⟩ := exkid_at HK.out hc0
  simp only [Nat.zero_mul, Nat.add_zero] at x0 x1 x2 x3 x4 x5
  have hbl := cell_lt x0
  obtain ⟨Q0, hQ0⟩ : ∃ Q, sortE ns ss c0 = Q := ⟨_, rfl⟩
  have hcall0 := ih ns ss (.slice A1 ns.length c1) (.slice A2 ss.length c2) c0 (.agg #[.int .i64 c0.kind, .string ⟨c0.name.toArray⟩, .int .i64 c0.vs, .int .i64 c0.vn, .string ⟨c0.vt.toArray⟩, .slice A4 n4 p4]) W (hmk.out c0 (mem_of_at hc0)) ((exV_of hk0).below hba) (HF.out c0 (mem_of_at hc0)) (hg c0 (mem_of_at hc0)) (HEN.out.below hba)
  unfold SortSays at hcall0
  rw [hQ0] at hcall0
  have HCALL0 := Lib.hid hcall0
  have hst0 := HR.out
  rw [if_pos rfl, ← List.drop_zero (l := ks)] at hst0
  have hst1 := sortEs_drop (ns := ns) (ss := ss) (out := 2) (q := none) hc0
  have HST1 := Lib.hid (hst1.symm.trans hst0)
  rw [hQ0] at HST1
  dsimp only at HST1
  have hst2 := sortEs_drop (ns := ns) (ss := ss) (out := 2) (q := some Q0.1) hc0
  rw [hQ0] at hst2
  dsimp only at hst2
  rw [if_pos rfl] at hst2
  have HST2 := Lib.hid hst2
  clear hcall0 hQ0 hk0 hc0 hL0 hst0 hst1 hst2 HR
  have hg := Lib.hid hg
  clear hR hv hf hE hm hLL hk hkl hW hTI hTO
  go_enter Tryd.func9, Tryd.ntmps9
  go_wp2_with fail
  try rw [HW.out]
  clear HW
  refine HCALL0.out.mono ?_
  clear HCALL0
  rintro e w1 ⟨rfl, hb0⟩
  by_cases he0 : Q0.2 = 0
  · have hE0 : (Q0.2 != 0) = false := by rw [bne_eq_false_iff_eq]; exact he0
    have HR : Hid (sortEs ns ss 2 (ks.drop 0) (some Q0.1) = R) := by
      show _ = _
      rw [HST2.out, if_neg (by simp [he0])]
      have := HST1.out
      rw [if_neg (by simp [he0])] at this
      exact this
    have HB0 := hb0
    have u5 := cell_keep HB.out.c5 hb0
    clear he0 HST1 HST2 hb0
    go_wp2_with fail
    go_loopw [15] (fun i wr => ∃ j : Nat, j ≤ L ∧ i = .int .i64 j ∧ Hid (sortEs ns ss 2 (ks.drop j) (some Q0.1) = R) ∧ Below W.heap.size W wr) (fun i _ => L - (intOf i).toNat)
    case atStart => exact ⟨0, Nat.zero_le _, rfl, HR, HB0⟩
    case round =>
      clear HR HB0
      obtain ⟨j, hj, rfl, hs, hbw⟩ := hrel
      have hb3 := chain hba hbw
      have k5 := cell_keep HB.out.c5 hbw
      by_cases hlt : j < L
      · obtain ⟨c, hc'⟩ : ∃ y, ks[j]? = some y := ⟨_, List.getElem?_eq_getElem (by have := hLe.out; omega)⟩
        have HC' := Lib.hid hc'
        obtain ⟨-, -, b, off, A3, n3, p3, eA, -, y0, y1, y2, y3, y4, y5, hk'⟩ := exkid_at (HK.out.below hb3) hc'
        cases eA
        have HK' := Lib.hid hk'
        obtain ⟨Q, hQ⟩ : ∃ Q, sortE ns ss c = Q := ⟨_, rfl⟩
        have hstep := hs.out
        rw [sortEs_drop HC'.out, hQ] at hstep
        have hcall := ih ns ss (.slice A1 ns.length c1) (.slice A2 ss.length c2) c (.agg #[.int .i64 c.kind, .string ⟨c.name.toArray⟩, .int .i64 c.vs, .int .i64 c.vn, .string ⟨c.vt.toArray⟩, .slice A3 n3 p3]) wr (hmk.out c (mem_of_at HC'.out)) (exV_of HK'.out) (HF.out c (mem_of_at HC'.out)) (hg.out c (mem_of_at HC'.out)) (HEN.out.below hb3)
        unfold SortSays at hcall
        rw [hQ] at hcall
        have HCALL := Lib.hid hcall
        clear hQ hcall hs hk' hc'
        by_cases he : Q.2 = 0
        · rw [if_neg (by simp [he])] at hstep
          have hE : (Q.2 != 0) = false := by rw [bne_eq_false_iff_eq]; exact he
          dsimp only at hstep
          by_cases hq : Q.1 = Q0.1
          · rw [if_pos hq] at hstep
            have hqn : (Q.1 != Q0.1) = false := by rw [bne_eq_false_iff_eq]; exact hq
            have HST := Lib.hid hstep
            clear hstep he hq
            go_wp2_with fail
            refine HCALL.out.mono ?_
            rintro e w2 ⟨rfl, hb6⟩
            go_wp2_with fail
            go_roundw
            case rel => exact ⟨j + 1, by omega, by go_num, HST, hbw.trans (hb6.mono hbw.size)⟩
            case measure => simp [intOf] <;> omega
          · rw [if_neg hq] at hstep
            have hqn : (Q.1 != Q0.1) = true := by rw [bne_iff_ne]; exact hq
            have HST := Lib.hid hstep
            clear hstep he hq
            go_wp2_with fail
            refine HCALL.out.mono ?_
            rintro e w2 ⟨rfl, hb6⟩
            go_wp2_with fail
            go_ret2
            exact ⟨by rw [← HST.out]; rfl, hb3.trans (hb6.mono hb3.size)⟩
        · rw [if_pos he] at hstep
          have HST := Lib.hid hstep
          have hE : (Q.2 != 0) = true := by rw [bne_iff_ne]; exact he
          clear hstep he
          go_wp2_with fail
          refine HCALL.out.mono ?_
          rintro e w2 ⟨rfl, hb6⟩
          go_wp2_with fail
          go_ret2
          exact ⟨by rw [← HST.out]; rfl, hb3.trans (hb6.mono hb3.size)⟩
      · have hend := hs.out
        rw [List.drop_of_length_le (by have := hLe.out; omega)] at hend
        have HE : Hid ((2, 0) = R) := by
          show _ = _
          rw [← hend]
          rfl
        clear hend hs
        go_wp2_with fail
        go_ret2
        exact ⟨by rw [← HE.out]; rfl, hb3⟩
  · have hE0 : (Q0.2 != 0) = true := by rw [bne_iff_ne]; exact he0
    have HRR := HST1.out
    rw [if_pos he0] at HRR
    have HRQ := Lib.hid HRR
    clear he0 HST1 HST2 HRR
    go_wp2_with fail
    go_ret2
    exact ⟨by rw [← HRQ.out]; rfl, chain hba hb0⟩
set_option maxHeartbeats 4000000 in
theorem sof_op_rest (m : Nat) (ih : GIH m) (ns : List Str) (ss : List Int) (nv sv : Value) (n : Str) (s vn : Int) (x : Str) (ks : List Ex) (v : Value) (w : World) (hm : eparts (.mk 3 n s vn x ks) ≤ m + 1) (hv : ExV All w v (.mk 3 n s vn x ks)) (hf : ExFit 1048576 (.mk 3 n s vn x ks)) (hE : Env w nv sv ns ss) (hg : ∀ c ∈ ks, GoodE c) (h0 : n ≠ [111, 114]) (h1 : n ≠ [97, 110, 100]) (h2 : n ≠ [110, 111, 116]) (h3 : n ≠ [43, 43]) (h4 : n ≠ [35]) (h5 : n ≠ [61, 61]) (h6 : n ≠ [60]) (h7 : n ≠ [60, 61]) : SortSays 9 ns ss nv sv (.mk 3 n s vn x ks) v w := by
  unfold SortSays
  obtain ⟨A, L, cap, rfl, hk⟩ := hv.one'
  simp only [Ex.kind_mk, Ex.name_mk, Ex.vs_mk, Ex.vn_mk, Ex.vt_mk, Ex.kids_mk] at hk ⊢
  have hLL : L = ks.length := by obtain ⟨A', c', e, -, -⟩ := hk; injection e
  have hLe := Lib.hid hLL
  have hkl : ks.length ≤ 1048576 := hf.parts.2.2.2.2.2.1
  have hLb : L ≤ 1048576 := by omega
  have HF := Lib.hid hf.parts.2.2.2.2.2.2
  have HEN := Lib.hid hE
  obtain ⟨A1, c1, e1, -, -⟩ := hE.n
  obtain ⟨A2, c2, e2, -, -⟩ := hE.s
  subst e1 e2
  have HK := Lib.hid hk
  obtain ⟨R, hR⟩ : ∃ R, sortE ns ss (.mk 3 n s vn x ks) = R := ⟨_, rfl⟩
  have HR : Hid (sortEs ns ss (takesOut n) ks (if takesIn n = 0 then none else some (takesIn n)) = R) := by
    show _ = _
    rw [← hR, sortE, if_neg (show ¬ (3 : Int) = 1 by decide), if_neg (show ¬ (3 : Int) = 2 by decide)]
  rw [hR]
  have hmk : Hid (∀ c ∈ ks, eparts c ≤ m) := Lib.hid (fun c hc => by have h1 := eparts_at hc; simp only [eparts] at hm; omega)
  obtain ⟨W, hW⟩ : ∃ W, (w.alloc (.cells #[.int .i64 3, .string ⟨n.toArray⟩, .int .i64 s, .int .i64 vn, .string ⟨x.toArray⟩, .slice A L cap] 26)) = W := ⟨_, rfl⟩
  have hba : Below w.heap.size w W := by rw [← hW]; go_grown
  have HW := Lib.hid hW
  have HB : Hid (ExBox W w.heap.size (.mk 3 n s vn x ks) (.slice A L cap)) := by
    show ExBox _ _ _ _
    rw [← hW]
    exact new_exval w (.mk 3 n s vn x ks) _ _
  have hTI : takesIn n = 1 := by simp [takesIn, h0, h1, h2, h3, h4, h5, h6, h7]
  have hTO : takesOut n = 1 := by simp [takesOut, h0, h1, h2, h3, h4, h5, h6, h7]
  rw [hTI, hTO] at HR
  have hg := Lib.hid hg
  clear hR hv hf hE hm hLL hk hkl hW hTI hTO
  have g0 : (n == [111, 114]) = false := beq_eq_false_iff_ne.2 h0
  have g1 : (n == [97, 110, 100]) = false := beq_eq_false_iff_ne.2 h1
  have g2 : (n == [110, 111, 116]) = false := beq_eq_false_iff_ne.2 h2
  have g3 : (n == [43, 43]) = false := beq_eq_false_iff_ne.2 h3
  have g4 : (n == [35]) = false := beq_eq_false_iff_ne.2 h4
  have g5 : (n == [61, 61]) = false := beq_eq_false_iff_ne.2 h5
  have g6 : (n == [60]) = false := beq_eq_false_iff_ne.2 h6
  have g7 : (n == [60, 61]) = false := beq_eq_false_iff_ne.2 h7
  clear h0  h1  h2  h3  h4  h5  h6  h7
  go_enter Tryd.func9, Tryd.ntmps9
  go_wp2_with fail
  try rw [HW.out]
  clear HW
  have HB0 : Below W.heap.size W W := Below.refl _ _
  rw [if_neg (by decide)] at HR
  go_loopw [15] (fun i wr => ∃ j : Nat, j ≤ L ∧ i = .int .i64 j ∧ Hid (sortEs ns ss 1 (ks.drop j) (some 1) = R) ∧ Below W.heap.size W wr) (fun i _ => L - (intOf i).toNat)
  case atStart => exact ⟨0, Nat.zero_le _, rfl, HR, HB0⟩
  case round =>
    clear HR HB0
    obtain ⟨j, hj, rfl, hs, hbw⟩ := hrel
    have hb3 := chain hba hbw
    have k5 := cell_keep HB.out.c5 hbw
    by_cases hlt : j < L
    · obtain ⟨c, hc'⟩ : ∃ y, ks[j]? = some y := ⟨_, List.getElem?_eq_getElem (by have := hLe.out; omega)⟩
      have HC' := Lib.hid hc'
      obtain ⟨-, -, b, off, A3, n3, p3, eA, -, y0, y1, y2, y3, y4, y5, hk'⟩ := exkid_at (HK.out.below hb3) hc'
      cases eA
      have HK' := Lib.hid hk'
      obtain ⟨Q, hQ⟩ : ∃ Q, sortE ns ss c = Q := ⟨_, rfl⟩
      have hstep := hs.out
      rw [sortEs_drop HC'.out, hQ] at hstep
      have hcall := ih ns ss (.slice A1 ns.length c1) (.slice A2 ss.length c2) c (.agg #[.int .i64 c.kind, .string ⟨c.name.toArray⟩, .int .i64 c.vs, .int .i64 c.vn, .string ⟨c.vt.toArray⟩, .slice A3 n3 p3]) wr (hmk.out c (mem_of_at HC'.out)) (exV_of HK'.out) (HF.out c (mem_of_at HC'.out)) (hg.out c (mem_of_at HC'.out)) (HEN.out.below hb3)
      unfold SortSays at hcall
      rw [hQ] at hcall
      have HCALL := Lib.hid hcall
      clear hQ hcall hs hk' hc'
      by_cases he : Q.2 = 0
      · rw [if_neg (by simp [he])] at hstep
        have hE : (Q.2 != 0) = false := by rw [bne_eq_false_iff_eq]; exact he
        dsimp only at hstep
        by_cases hq : Q.1 = 1
        · rw [if_pos hq] at hstep
          have hqn : (Q.1 != 1) = false := by rw [bne_eq_false_iff_eq]; exact hq
          have HST := Lib.hid hstep
          clear hstep he hq
          go_wp2_with fail
          refine HCALL.out.mono ?_
          rintro e w2 ⟨rfl, hb6⟩
          go_wp2_with fail
          go_roundw
          case rel => exact ⟨j + 1, by omega, by go_num, HST, hbw.trans (hb6.mono hbw.size)⟩
          case measure => simp [intOf] <;> omega
        · rw [if_neg hq] at hstep
          have hqn : (Q.1 != 1) = true := by rw [bne_iff_ne]; exact hq
          have HST := Lib.hid hstep
          clear hstep he hq
          go_wp2_with fail
          refine HCALL.out.mono ?_
          rintro e w2 ⟨rfl, hb6⟩
          go_wp2_with fail
          go_ret2
          exact ⟨by rw [← HST.out]; rfl, hb3.trans (hb6.mono hb3.size)⟩
      · rw [if_pos he] at hstep
        have HST := Lib.hid hstep
        have hE : (Q.2 != 0) = true := by rw [bne_iff_ne]; exact he
        clear hstep he
        go_wp2_with fail
        refine HCALL.out.mono ?_
        rintro e w2 ⟨rfl, hb6⟩
        go_wp2_with fail
        go_ret2
        exact ⟨by rw [← HST.out]; rfl, hb3.trans (hb6.mono hb3.size)⟩
    · have hend := hs.out
      rw [List.drop_of_length_le (by have := hLe.out; omega)] at hend
      have HE : Hid ((1, 0) = R) := by
        show _ = _
        rw [← hend]
        rfl
      clear hend hs
      go_wp2_with fail
      go_ret2
      exact ⟨by rw [← HE.out]; rfl, hb3⟩
theorem sof_any : ∀ (m : Nat), GIH m := by
  intro m
  induction m with
  | zero => intro ns ss nv sv t v w h; cases t; simp only [eparts] at h; omega
  | succ m ih =>
  intro ns ss nv sv t v w hm hv hf hg hE
  rcases good_cases hg with ⟨s, vn, x, rfl, hc⟩ | ⟨n, s, vn, x, rfl⟩ | hgo
  · exact sof_lit ns ss nv sv [] s vn x [] v w hv
  · exact sof_name ns ss nv sv n s vn x [] v w hv hE
  · have hh : ∃ n s vn x ks, t = .mk 3 n s vn x ks ∧ 0 < ks.length ∧ ∀ c ∈ ks, GoodE c := by
      rcases hgo with ⟨n, s, vn, x, c, rfl, hl, h1⟩ | ⟨n, s, vn, x, c, d, rfl, hl, h1, h2⟩
      · exact ⟨n, s, vn, x, [c], rfl, by simp, by simpa using h1⟩
      · exact ⟨n, s, vn, x, [c, d], rfl, by simp, by simpa using ⟨h1, h2⟩⟩
    obtain ⟨n, s, vn, x, ks, rfl, hL, hgk⟩ := hh
    by_cases h0 : n = [111, 114]
    · subst h0; exact sof_op_or m ih ns ss nv sv s vn x ks v w hm hv hf hE hgk
    by_cases h1 : n = [97, 110, 100]
    · subst h1; exact sof_op_and m ih ns ss nv sv s vn x ks v w hm hv hf hE hgk
    by_cases h2 : n = [110, 111, 116]
    · subst h2; exact sof_op_not m ih ns ss nv sv s vn x ks v w hm hv hf hE hgk
    by_cases h3 : n = [43, 43]
    · subst h3; exact sof_op_cat m ih ns ss nv sv s vn x ks v w hm hv hf hE hgk
    by_cases h4 : n = [35]
    · subst h4; exact sof_op_len m ih ns ss nv sv s vn x ks v w hm hv hf hE hgk
    by_cases h5 : n = [61, 61]
    · subst h5; exact sof_op_eq m ih ns ss nv sv s vn x ks v w hm hv hf hE hgk hL
    by_cases h6 : n = [60]
    · subst h6; exact sof_op_lt m ih ns ss nv sv s vn x ks v w hm hv hf hE hgk hL
    by_cases h7 : n = [60, 61]
    · subst h7; exact sof_op_le m ih ns ss nv sv s vn x ks v w hm hv hf hE hgk hL
    exact sof_op_rest m ih ns ss nv sv n s vn x ks v w hm hv hf hE hgk h0 h1 h2 h3 h4 h5 h6 h7
end Go.Proofs.YtmklodgcbldndaaDoor
namespace Go.Proofs.YtmklodgcbldndaaDoor
open Go.RowKit Go.Proofs

set_option maxRecDepth 100000
set_option maxHeartbeats 1000000 in
theorem eSort_bad (t : Ex) (v nv sv : Value) (ns : List Str) (ss : List Int) (w : World) {D : Blocks} (hv : ExV D w v t) (hf : ExFit 1048576 t) (hT : Tabs w) (HN : IsStrs w nv ns) (HS : IntsD All w sv ss) (E : Int) (hE : exErr t = E) (h0 : E ≠ 0) :
    Calls Tryd.prog 7 #[v, nv, sv] w fun e w' => e = .returned (.tuple #[.int .i64 0, .int .i64 E]) ∧ Below w.heap.size w w' := by
  have HZ := Lib.hid hv.all
  obtain ⟨A, L, cap, rfl, hk⟩ := hv.one'
  obtain ⟨A1, c1, e1, -, -⟩ := HN
  obtain ⟨A2, c2, e2, -, -⟩ := HS
  subst e1 e2
  have HE := Lib.hid hE
  have hb : (E != 0) = true := by rw [bne_iff_ne]; exact h0
  clear h0 hE
  clear hk hv
  go_enter Tryd.func7, Tryd.ntmps7
  go_wp2_with fail
  obtain ⟨W, hW⟩ : ∃ W, w.alloc (.cells #[.int .i64 t.kind, .string ⟨t.name.toArray⟩, .int .i64 t.vs, .int .i64 t.vn, .string ⟨t.vt.toArray⟩, .slice A L cap] 26) = W := ⟨_, rfl⟩
  have hbx : ExBox W w.heap.size t (.slice A L cap) := by subst hW; exact new_exval w t (.slice A L cap) 26
  have hb0 : Below w.heap.size w W := by subst hW; exact (Below.refl _ _).alloc (Nat.le_refl _) _
  try rw [hW]
  clear hW
  refine (eCheck_any t _ _ (HZ.out.below hb0) hf (hT.below hb0)).mono ?_; rw [HE.out]; rintro e w1 ⟨rfl, hb1⟩
  obtain ⟨b0, b1, b2, b3, b4, b5, b6, b7⟩ := hbx.keep hb1 hbx.lt
  have hb2 := chain hb0 hb1
  clear hbx
  go_wp2_with fail
  exact bodyPost_ret (v := .tuple #[.int .i64 0, .int .i64 E]) (by simp [results, Tryd.results7, go_sem]) rfl ⟨rfl, hb2⟩
set_option maxHeartbeats 1000000 in
theorem eSort_len (t : Ex) (v nv sv : Value) (ns : List Str) (ss : List Int) (w : World) {D : Blocks} (hv : ExV D w v t) (hf : ExFit 1048576 t) (hT : Tabs w) (HN : IsStrs w nv ns) (HS : IntsD All w sv ss) (hE : exErr t = 0) (hl : ns.length ≠ ss.length) :
    Calls Tryd.prog 7 #[v, nv, sv] w fun e w' => e = .returned (.tuple #[.int .i64 0, .int .i64 1]) ∧ Below w.heap.size w w' := by
  have HZ := Lib.hid hv.all
  obtain ⟨A, L, cap, rfl, hk⟩ := hv.one'
  obtain ⟨A1, c1, e1, -, -⟩ := HN
  obtain ⟨A2, c2, e2, -, -⟩ := HS
  subst e1 e2
  have HE := Lib.hid hE
  have hb : ((ns.length : Int) != (ss.length : Int)) = true := by rw [bne_iff_ne]; omega
  clear hE hl
  generalize ns.length = n1 at *
  generalize ss.length = n2 at *
  clear hk hv
  go_enter Tryd.func7, Tryd.ntmps7
  go_wp2_with fail
  obtain ⟨W, hW⟩ : ∃ W, w.alloc (.cells #[.int .i64 t.kind, .string ⟨t.name.toArray⟩, .int .i64 t.vs, .int .i64 t.vn, .string ⟨t.vt.toArray⟩, .slice A L cap] 26) = W := ⟨_, rfl⟩
  have hbx : ExBox W w.heap.size t (.slice A L cap) := by subst hW; exact new_exval w t (.slice A L cap) 26
  have hb0 : Below w.heap.size w W := by subst hW; exact (Below.refl _ _).alloc (Nat.le_refl _) _
  try rw [hW]
  clear hW
  refine (eCheck_any t _ _ (HZ.out.below hb0) hf (hT.below hb0)).mono ?_; rw [HE.out]; rintro e w1 ⟨rfl, hb1⟩
  obtain ⟨b0, b1, b2, b3, b4, b5, b6, b7⟩ := hbx.keep hb1 hbx.lt
  have hb2 := chain hb0 hb1
  clear hbx
  go_wp2_with fail
  exact bodyPost_ret (v := .tuple #[.int .i64 0, .int .i64 1]) (by simp [results, Tryd.results7, go_sem]) rfl ⟨rfl, hb2⟩
set_option maxHeartbeats 1000000 in
theorem eSort_ok (t : Ex) (v nv sv : Value) (ns : List Str) (ss : List Int) (w : World) {D : Blocks} (hv : ExV D w v t) (hf : ExFit 1048576 t) (hT : Tabs w) (hEn : Env w nv sv ns ss) (hE : exErr t = 0) :
    Calls Tryd.prog 7 #[v, nv, sv] w fun e w' => e = .returned (.tuple #[.int .i64 (sortE ns ss t).1, .int .i64 (sortE ns ss t).2]) ∧ Below w.heap.size w w' := by
  have HZ := Lib.hid hv.all
  obtain ⟨A, L, cap, rfl, hk⟩ := hv.one'
  have HE := Lib.hid hE
  have HEN := Lib.hid hEn
  obtain ⟨A1, c1, e1, -, -⟩ := hEn.n
  obtain ⟨A2, c2, e2, -, -⟩ := hEn.s
  subst e1 e2
  have hb : ((ns.length : Int) != (ss.length : Int)) = false := by rw [bne_eq_false_iff_eq]; have := hEn.l; omega
  clear hE hEn
  clear hk hv
  go_enter Tryd.func7, Tryd.ntmps7
  go_wp2_with fail
  obtain ⟨W, hW⟩ : ∃ W, w.alloc (.cells #[.int .i64 t.kind, .string ⟨t.name.toArray⟩, .int .i64 t.vs, .int .i64 t.vn, .string ⟨t.vt.toArray⟩, .slice A L cap] 26) = W := ⟨_, rfl⟩
  have hbx : ExBox W w.heap.size t (.slice A L cap) := by subst hW; exact new_exval w t (.slice A L cap) 26
  have hb0 : Below w.heap.size w W := by subst hW; exact (Below.refl _ _).alloc (Nat.le_refl _) _
  try rw [hW]
  clear hW
  refine (eCheck_any t _ _ (HZ.out.below hb0) hf (hT.below hb0)).mono ?_; rw [HE.out]; rintro e w1 ⟨rfl, hb1⟩
  obtain ⟨b0, b1, b2, b3, b4, b5, b6, b7⟩ := hbx.keep hb1 hbx.lt
  have hb2 := chain hb0 hb1
  clear hbx
  go_wp2_with fail
  have hs := sort_any (eparts t) ns ss _ _ t (.agg #[.int .i64 t.kind, .string ⟨t.name.toArray⟩, .int .i64 t.vs, .int .i64 t.vn, .string ⟨t.vt.toArray⟩, .slice A L cap]) w1 (Nat.le_refl _) (HZ.out.below hb2) hf (HEN.out.below hb2)
  unfold SortSays at hs
  refine hs.mono ?_; clear hs; rintro e w2 ⟨rfl, hb3⟩
  go_wp2_with fail
  exact bodyPost_ret (v := .tuple #[.int .i64 (sortE ns ss t).1, .int .i64 (sortE ns ss t).2]) (by simp [results, Tryd.results7, go_sem]) rfl ⟨rfl, chain hb2 hb3⟩
end Go.Proofs.YtmklodgcbldndaaDoor
