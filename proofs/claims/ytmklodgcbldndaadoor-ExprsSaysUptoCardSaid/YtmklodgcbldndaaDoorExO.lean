/-
  exprs.sort answers 'sortE'.
-/
import Derived.Test.YtmklodgcbldndaaDoorM4
namespace Go.Proofs.YtmklodgcbldndaaDoor
open Go.RowKit Go.Proofs

set_option maxRecDepth 100000
def SortSays (f : FuncId) (ns : List Str) (ss : List Int) (nv sv : Value) (t : Ex) (v : Value) (w : World) : Prop :=
  Calls Tryd.prog f #[v, nv, sv] w fun e w' => e = .returned (.tuple #[.int .i64 (sortE ns ss t).1, .int .i64 (sortE ns ss t).2]) ∧ Below w.heap.size w w'
/-- What the names and sorts are in memory. -/
structure Env (w : World) (nv sv : Value) (ns : List Str) (ss : List Int) : Prop where
  n : IsStrs w nv ns
  s : IntsD All w sv ss
  l : ss.length = ns.length
  b : ns.length ≤ 1048576
theorem Env.below {w w' : World} {nv sv : Value} {ns : List Str} {ss : List Int} (h : Env w nv sv ns ss) (hb : Below w.heap.size w w') : Env w' nv sv ns ss := ⟨h.n.keep hb, h.s.below hb, h.l, h.b⟩
abbrev SIH (f : FuncId) (m : Nat) : Prop := ∀ (ns : List Str) (ss : List Int) (nv sv : Value) (t : Ex) (v : Value) (w : World), eparts t ≤ m → ExV All w v t → ExFit 1048576 t → Env w nv sv ns ss → SortSays f ns ss nv sv t v w
set_option maxHeartbeats 2000000 in
theorem sort_lit (ns : List Str) (ss : List Int) (nv sv : Value) (n : Str) (s vn : Int) (x : Str) (ks : List Ex) (v : Value) (w : World) (hv : ExV All w v (.mk 1 n s vn x ks)) : SortSays 22 ns ss nv sv (.mk 1 n s vn x ks) v w := by
  unfold SortSays
  have e : sortE ns ss (.mk 1 n s vn x ks) = (s, 0) := by simp [sortE]
  rw [e]
  clear e
  obtain ⟨A, L, cap, rfl, hk⟩ := hv.one'
  simp only [Ex.kind, Ex.name, Ex.vs, Ex.vn, Ex.vt, Ex.kids] at hk ⊢
  clear hk hv
  go_enter Tryd.func22, Tryd.ntmps22
  go_wp2_with fail
  go_ret2
  exact ⟨rfl, by go_grown⟩
set_option maxHeartbeats 2000000 in
theorem sort_name (ns : List Str) (ss : List Int) (nv sv : Value) (n : Str) (s vn : Int) (x : Str) (ks : List Ex) (v : Value) (w : World) (hv : ExV All w v (.mk 2 n s vn x ks)) (hE : Env w nv sv ns ss) : SortSays 22 ns ss nv sv (.mk 2 n s vn x ks) v w := by
  unfold SortSays
  obtain ⟨A, L, cap, rfl, hk⟩ := hv.one'
  simp only [Ex.kind_mk, Ex.name_mk, Ex.vs_mk, Ex.vn_mk, Ex.vt_mk, Ex.kids_mk] at hk ⊢
  obtain ⟨hns, hss, hl, hnb⟩ := hE
  have HNS := Lib.hid hns
  have HSS := Lib.hid hss
  obtain ⟨A1, c1, rfl, hc1, -⟩ := hns
  obtain ⟨A2, c2, rfl, hc2, -⟩ := hss
  obtain ⟨N, hN⟩ : ∃ N, ns.length = N := ⟨_, rfl⟩
  have HN := Lib.hid hN
  have HSL := Lib.hid hl
  rw [hN] at hnb hc1 hl ⊢
  rw [hl] at hc2 ⊢
  obtain ⟨R, hR⟩ : ∃ R, sortE ns ss (.mk 2 n s vn x ks) = R := ⟨_, rfl⟩
  have HR : Hid ((match lookN ns ss n N with | some v => (v, 0) | none => (0, 4)) = R) := by
    show _ = _
    rw [← hR, sortE, if_neg (by decide), if_pos rfl, hN]
    cases lookN ns ss n N <;> rfl
  rw [hR]
  obtain ⟨W, hW⟩ : ∃ W, (w.alloc (.cells #[.int .i64 2, .string ⟨n.toArray⟩, .int .i64 s, .int .i64 vn, .string ⟨x.toArray⟩, .slice A L cap] 26)) = W := ⟨_, rfl⟩
  have hba : Below w.heap.size w W := by rw [← hW]; go_grown
  have HB : Hid (W.cell? ⟨w.heap.size, 1, none⟩ = some (.string ⟨n.toArray⟩)) := by
    show _ = _
    rw [← hW]
    simp [go_sem]
  have HW := Lib.hid hW
  clear hR hk hv hN hl hW
  go_enter Tryd.func22, Tryd.ntmps22
  go_wp2_with fail
  try rw [HW.out]
  clear HW
  go_loopw [8] (fun i wr => ∃ j : Nat, j ≤ N ∧ i = .int .i64 ((j : Int) - 1) ∧ Hid (lookN ns ss n N = lookN ns ss n j) ∧ Below W.heap.size W wr) (fun i _ => ((intOf i) + 1).toNat)
  case atStart => exact ⟨N, Nat.le_refl _, rfl, rfl, Below.refl _ _⟩
  case round =>
    obtain ⟨j, hj, rfl, hlk, hbw⟩ := hrel
    have hb3 := chain hba hbw
    have k1 := cell_keep HB.out hbw
    cases j with
    | zero =>
      have HRR : Hid ((0, 4) = R) := by
        have := HR.out
        rw [hlk.out] at this
        exact this
      clear HR
      rw [show (((0 : Nat) : Int) - 1) = -1 by omega]
      go_wp2_with fail
      go_ret2
      exact ⟨by rw [← HRR.out]; rfl, hb3⟩
    | succ j =>
      rw [show (((j + 1 : Nat) : Int) - 1) = (j : Int) by omega]
      obtain ⟨y, hy⟩ : ∃ y, ns[j]? = some y := ⟨_, List.getElem?_eq_getElem (by rw [HN.out]; omega)⟩
      obtain ⟨z, hz⟩ : ∃ z, ss[j]? = some z := ⟨_, List.getElem?_eq_getElem (by rw [HSL.out, HN.out]; omega)⟩
      obtain ⟨A', c', e, -, h3⟩ := HNS.out
      injection e with e1 e2 e3
      obtain ⟨b, o, rfl, hr⟩ := h3 (by rw [HN.out]; omega)
      subst e1
      obtain ⟨A'', c'', e, -, h3'⟩ := HSS.out
      injection e with e1' e2' e3'
      obtain ⟨b', o', rfl, -, hr'⟩ := h3' (by rw [HSL.out, HN.out]; omega)
      subst e1'
      have y0 := cell_keep (hr j y hy) hb3
      have z0 := cell_keep (hr' j z hz) hb3
      have hst : lookN ns ss n (j + 1) = if y = n then some z else lookN ns ss n j := by
        rw [lookN]
        simp only [List.getD, hy, hz, Option.getD_some]
      rw [hst] at hlk
      clear e2 e3 e2' e3' hr hr' hst h3 h3' hy hz
      have hjN : j < N := by omega
      by_cases hyn : y = n
      · subst hyn
        have HRR : Hid ((z, 0) = R) := by
          have := HR.out
          rw [hlk.out, if_pos rfl] at this
          exact this
        clear HR hlk
        go_wp2_with fail
        go_quiet (fail)
        have z1 : (wr.drewN nq).cell? ⟨b', o' + j, none⟩ = some (.int .i64 z) := z0
        have hb4 := below_drewN hb3 nq
        clear y0 z0 k1 hb3 hbw
        generalize wr.drewN nq = w2 at z1 hb4 ⊢
        go_wp2_with fail
        go_ret2
        exact ⟨by rw [← HRR.out]; rfl, hb4⟩
      · rw [if_neg hyn] at hlk
        have hyb : (y == n) = false := by rw [beq_eq_false_iff_ne]; exact hyn
        clear hyn
        go_wp2_with fail
        go_quiet (fail)
        have hb4 := below_drewN hbw nq
        clear y0 z0 k1 hb3 hbw
        generalize wr.drewN nq = w2 at hb4 ⊢
        go_wp2_with fail
        go_roundw
        case rel => exact ⟨j, by omega, rfl, hlk, hb4⟩
        case measure => simp [intOf] <;> omega
theorem sortEs_drop {ns : List Str} {ss : List Int} {out : Int} {ks : List Ex} {j : Nat} {c : Ex} {q : Option Int} (h : ks[j]? = some c) : sortEs ns ss out (ks.drop j) q = if (sortE ns ss c).2 ≠ 0 then (0, (sortE ns ss c).2) else match q with
      | none => sortEs ns ss out (ks.drop (j + 1)) (some (sortE ns ss c).1)
      | some v => if (sortE ns ss c).1 = v then sortEs ns ss out (ks.drop (j + 1)) (some v) else (0, 5) := by
  obtain ⟨h1, h2⟩ := List.getElem?_eq_some_iff.1 h
  rw [List.drop_eq_getElem_cons h1, h2, sortEs.eq_def]
  cases q <;> rfl
set_option maxHeartbeats 2000000 in
theorem sort_op (m : Nat) (ih : SIH 22 m) (ns : List Str) (ss : List Int) (nv sv : Value) (k : Int) (n : Str) (s vn : Int) (x : Str) (ks : List Ex) (v : Value) (w : World) (hm : eparts (.mk k n s vn x ks) ≤ m + 1) (hv : ExV All w v (.mk k n s vn x ks)) (hf : ExFit 1048576 (.mk k n s vn x ks)) (hE : Env w nv sv ns ss) (k1 : k ≠ 1) (k2 : k ≠ 2) : SortSays 22 ns ss nv sv (.mk k n s vn x ks) v w := by
  unfold SortSays
  obtain ⟨A, L, cap, rfl, hk⟩ := hv.one'
  simp only [Ex.kind_mk, Ex.name_mk, Ex.vs_mk, Ex.vn_mk, Ex.vt_mk, Ex.kids_mk] at hk ⊢
  have hLL : L = ks.length := by obtain ⟨A', c', e, -, -⟩ := hk; injection e
  have hLe := Lib.hid hLL
  have hkl : ks.length ≤ 1048576 := hf.parts.2.2.2.2.2.1
  have hLb : L ≤ 1048576 := by omega
  have HF := Lib.hid hf.parts.2.2.2.2.2.2
  have HEN := Lib.hid hE
  obtain ⟨A1, c1, e1, -, -⟩ := hE.n
  obtain ⟨A2, c2, e2, -, -⟩ := hE.s
  subst e1 e2
  have HK := Lib.hid hk
  obtain ⟨R, hR⟩ : ∃ R, sortE ns ss (.mk k n s vn x ks) = R := ⟨_, rfl⟩
  have HR : Hid (sortEs ns ss (takesOut n) ks (if takesIn n = 0 then none else some (takesIn n)) = R) := by
    show _ = _
    rw [← hR, sortE, if_neg k1, if_neg k2]
  rw [hR]
  have hmk : Hid (∀ c ∈ ks, eparts c ≤ m) := Lib.hid (fun c hc => by have h1 := eparts_at hc; simp only [eparts] at hm; omega)
  obtain ⟨W, hW⟩ : ∃ W, (w.alloc (.cells #[.int .i64 k, .string ⟨n.toArray⟩, .int .i64 s, .int .i64 vn, .string ⟨x.toArray⟩, .slice A L cap] 26)) = W := ⟨_, rfl⟩
  have hba : Below w.heap.size w W := by rw [← hW]; go_grown
  have HW := Lib.hid hW
  have HTK := Lib.hid (takes_any n)
  have HB : Hid (ExBox W w.heap.size (.mk k n s vn x ks) (.slice A L cap)) := by
    show ExBox _ _ _ _
    rw [← hW]
    exact new_exval w (.mk k n s vn x ks) _ _
  obtain ⟨TI, hTI⟩ : ∃ TI, takesIn n = TI := ⟨_, rfl⟩
  obtain ⟨TO, hTO⟩ : ∃ TO, takesOut n = TO := ⟨_, rfl⟩
  rw [hTI, hTO] at HR HTK
  clear hR hv hf hE hm hLL hk hkl hW hTI hTO
  go_enter Tryd.func22, Tryd.ntmps22
  go_wp2_with fail
  refine (HTK.out _).mono ?_
  rintro e w1 ⟨rfl, rfl⟩
  try rw [HW.out]
  clear HW
  obtain ⟨b0, b1, b2, b3, b4, b5, b6, b7⟩ := HB.out
  simp only [Ex.kind_mk, Ex.name_mk, Ex.vs_mk, Ex.vn_mk, Ex.vt_mk] at b0 b1 b2 b3 b4 b5
  go_wp2_with fail
  obtain ⟨AN, hAN⟩ : ∃ AN, (TI == 0) = AN := ⟨_, rfl⟩
  rw [hAN]
  have HAN := Lib.hid hAN
  clear hAN
  go_loopw [9, 54] (fun iv i wr => ∃ (j : Nat) (wv : Int), j ≤ L ∧ i = .int .i64 j ∧ iv = .int .i64 wv ∧ Hid (sortEs ns ss TO (ks.drop j) (if TI = 0 ∧ j = 0 then none else some wv) = R) ∧ Below W.heap.size W wr) (fun _ i _ => L - (intOf i).toNat)
  case atStart =>
    refine ⟨0, TI, Nat.zero_le _, rfl, rfl, Lib.hid ?_, Below.refl _ _⟩
    rw [← HR.out]
    simp only [List.drop_zero, and_true]
  case round =>
    clear b0 b1 b2 b3 b4 b5 b6 b7 HR
    obtain ⟨j, wv, hj, rfl, rfl, hs, hbw⟩ := hrel
    have hb3 := chain hba hbw
    by_cases hlt : j < L
    · obtain ⟨c, hc'⟩ : ∃ y, ks[j]? = some y := ⟨_, List.getElem?_eq_getElem (by have := hLe.out; omega)⟩
      have HC' := Lib.hid hc'
      obtain ⟨-, -, b, off, A3, n3, p3, rfl, -, y0, y1, y2, y3, y4, y5, hk'⟩ := exkid_at (HK.out.below hb3) hc'
      have HK' := Lib.hid hk'
      obtain ⟨wa, hwa⟩ : ∃ y, wr.alloc (.cells #[.int .i64 c.kind, .string ⟨c.name.toArray⟩, .int .i64 c.vs, .int .i64 c.vn, .string ⟨c.vt.toArray⟩, .slice A3 n3 p3] 26) = y := ⟨_, rfl⟩
      have hbb : Below wr.heap.size wr wa := by subst hwa; exact (Below.refl _ _).alloc (Nat.le_refl _) _
      have hb4 := chain hb3 hbb
      obtain ⟨Q, hQ⟩ : ∃ Q, sortE ns ss c = Q := ⟨_, rfl⟩
      have hstep := hs.out
      rw [sortEs_drop HC'.out, hQ] at hstep
      have hcall := ih ns ss (.slice A1 ns.length c1) (.slice A2 ss.length c2) c (.agg #[.int .i64 c.kind, .string ⟨c.name.toArray⟩, .int .i64 c.vs, .int .i64 c.vn, .string ⟨c.vt.toArray⟩, .slice A3 n3 p3]) wa (hmk.out c (mem_of_at HC'.out)) ((exV_of HK'.out).below hbb) (HF.out c (mem_of_at HC'.out)) (HEN.out.below hb4)
      unfold SortSays at hcall
      rw [hQ] at hcall
      have HCALL := Lib.hid hcall
      have HWA := Lib.hid hwa
      have hb5 := chain hbw hbb
      clear hQ hcall hs hk' hc' hwa hbw
      by_cases he : Q.2 = 0
      · rw [if_neg (by simp [he])] at hstep
        have hE : (Q.2 != 0) = false := by rw [bne_eq_false_iff_eq]; exact he
        by_cases ht : TI = 0
        · have hA : AN = true := by rw [← HAN.out, ht]; rfl
          subst hA
          subst ht
          clear HAN
          by_cases hj0 : j = 0
          · subst hj0
            rw [if_pos ⟨rfl, rfl⟩] at hstep
            dsimp only at hstep
            simp only [Nat.zero_mul, Nat.add_zero] at y0 y1 y2 y3 y4 y5
            have HST := Lib.hid hstep
            clear hstep he
            go_wp2_with fail
            try rw [HWA.out]
            clear HWA
            refine HCALL.out.mono ?_
            rintro e w2 ⟨rfl, hb6⟩
            go_wp2_with fail
            go_roundw
            case rel => exact ⟨1, Q.1, by omega, rfl, rfl, HST, (hb5.trans (hb6.mono hb5.size))⟩
            case measure => simp [intOf] <;> omega
          · rw [if_neg (fun h => hj0 h.2)] at hstep
            dsimp only at hstep
            have hjz : ((j : Int) == 0) = false := by rw [beq_eq_false_iff_ne]; omega
            by_cases hq : Q.1 = wv
            · rw [if_pos hq] at hstep
              have hqn : (Q.1 != wv) = false := by rw [bne_eq_false_iff_eq]; exact hq
              have HST := Lib.hid hstep
              clear hstep he hq
              go_wp2_with fail
              try rw [HWA.out]
              clear HWA
              refine HCALL.out.mono ?_
              rintro e w2 ⟨rfl, hb6⟩
              go_wp2_with fail
              go_roundw
              case rel => exact ⟨j + 1, wv, by omega, by go_num, rfl, Lib.hid (by rw [if_neg (fun h => by have h2 := h.2; omega)]; exact HST.out), (hb5.trans (hb6.mono hb5.size))⟩
              case measure => simp [intOf] <;> omega
            · rw [if_neg hq] at hstep
              have hqn : (Q.1 != wv) = true := by rw [bne_iff_ne]; exact hq
              have HST := Lib.hid hstep
              clear hstep he hq
              go_wp2_with fail
              try rw [HWA.out]
              clear HWA
              refine HCALL.out.mono ?_
              rintro e w2 ⟨rfl, hb6⟩
              go_wp2_with fail
              go_ret2
              exact ⟨by rw [← HST.out]; rfl, hb4.trans (hb6.mono hb4.size)⟩
        · rw [if_neg (fun h => ht h.1)] at hstep
          dsimp only at hstep
          have htz : (TI == 0) = false := by rw [beq_eq_false_iff_ne]; exact ht
          have hA : AN = false := by rw [← HAN.out]; exact htz
          subst hA
          clear htz HAN
          have HT := Lib.hid ht
          clear ht
          by_cases hq : Q.1 = wv
          · rw [if_pos hq] at hstep
            have hqn : (Q.1 != wv) = false := by rw [bne_eq_false_iff_eq]; exact hq
            have HST := Lib.hid hstep
            clear hstep he hq
            go_wp2_with fail
            try rw [HWA.out]
            clear HWA
            refine HCALL.out.mono ?_
            rintro e w2 ⟨rfl, hb6⟩
            go_wp2_with fail
            go_roundw
            case rel => exact ⟨j + 1, wv, by omega, by go_num, rfl, Lib.hid (by rw [if_neg (fun h => HT.out h.1)]; exact HST.out), (hb5.trans (hb6.mono hb5.size))⟩
            case measure => simp [intOf] <;> omega
          · rw [if_neg hq] at hstep
            have hqn : (Q.1 != wv) = true := by rw [bne_iff_ne]; exact hq
            have HST := Lib.hid hstep
            clear hstep he hq
            go_wp2_with fail
            try rw [HWA.out]
            clear HWA
            refine HCALL.out.mono ?_
            rintro e w2 ⟨rfl, hb6⟩
            go_wp2_with fail
            go_ret2
            exact ⟨by rw [← HST.out]; rfl, hb4.trans (hb6.mono hb4.size)⟩
      · rw [if_pos he] at hstep
        have HST := Lib.hid hstep
        have hE : (Q.2 != 0) = true := by rw [bne_iff_ne]; exact he
        clear hstep he
        go_wp2_with fail
        try rw [HWA.out]
        clear HWA
        refine HCALL.out.mono ?_
        rintro e w2 ⟨rfl, hb6⟩
        go_wp2_with fail
        go_ret2
        exact ⟨by rw [← HST.out]; rfl, hb4.trans (hb6.mono hb4.size)⟩
    · have hend := hs.out
      rw [List.drop_of_length_le (by have := hLe.out; omega)] at hend
      have HE : Hid ((TO, 0) = R) := by
        show _ = _
        rw [← hend]
        rfl
      clear hend hs
      go_wp2_with fail
      go_ret2
      exact ⟨by rw [← HE.out]; rfl, hb3⟩
theorem sort_any : ∀ (m : Nat), SIH 22 m := by
  intro m
  induction m with
  | zero => intro ns ss nv sv t v w h; cases t; simp only [eparts] at h; omega
  | succ m ih =>
  intro ns ss nv sv t v w hm hv hf hE
  obtain ⟨k, n, s, vn, x, ks⟩ := t
  by_cases k1 : k = 1
  · subst k1; exact sort_lit ns ss nv sv n s vn x ks v w hv
  by_cases k2 : k = 2
  · subst k2; exact sort_name ns ss nv sv n s vn x ks v w hv hE
  exact sort_op m ih ns ss nv sv k n s vn x ks v w hm hv hf hE k1 k2
end Go.Proofs.YtmklodgcbldndaaDoor
