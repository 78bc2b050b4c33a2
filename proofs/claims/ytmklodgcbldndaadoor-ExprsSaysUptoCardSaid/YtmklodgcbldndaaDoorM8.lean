/-
  The reference's text of an expression: 'txtE'.
  The reference's 'letters' (utf-8 letter by letter), 'Length'.
  The reference's Value, Order, Length; values.Order with its comparisons.
-/
import Derived.Test.YtmklodgcbldndaaDoorM4
import Derived.Test.YtmklodgcbldndaaDoorM7
import Derived.Test.YtmklodgcbldndaaDoorM2
import Derived.Lib.MapLaws
import Derived.Test.YtmklodgcbldndaaDoorM3
import Derived.Laws.StructEq
import Derived.Deep.RegionHeld3
import Derived.Deep.DrawnRows
namespace Go.Proofs.YtmklodgcbldndaaDoor
open Go.RowKit Go.Proofs

set_option maxRecDepth 100000
def XSays (t : Ex) (v : Value) (w : World) : Prop :=
  Calls Tryd.prog 8 #[v] w fun e w' => e = .returned (.string ⟨(txtE t).toArray⟩) ∧ Below w.heap.size w w'
abbrev XIH (m : Nat) : Prop := ∀ (t : Ex) (v : Value) (w : World), eparts t ≤ m → eparts t ≤ 1000 → ExV All w v t → ExFit 1048576 t → GoodE t → XSays t v w
set_option maxHeartbeats 2000000 in
theorem xtext_lit (s vn : Int) (x : Str) (v : Value) (w : World) (hv : ExV All w v (.mk 1 [] s vn x [])) (hf : ExFit 1048576 (.mk 1 [] s vn x [])) (hc : vchk s vn x = 0) : XSays (.mk 1 [] s vn x []) v w := by
  unfold XSays
  have e : txtE (.mk 1 [] s vn x []) = vtxt s vn x := by simp [txtE]
  rw [e]
  clear e
  obtain ⟨A, L, cap, rfl, hk⟩ := hv.one'
  simp only [Ex.kind, Ex.name, Ex.vs, Ex.vn, Ex.vt, Ex.kids] at hk ⊢
  have hLL : L = 0 := by obtain ⟨A', c', e, -, -⟩ := hk; injection e
  have hfp := hf.parts
  simp only [Ex.kind, Ex.name, Ex.vs, Ex.vn, Ex.vt, Ex.kids] at hfp
  obtain ⟨-, -, -, hvn, hx, -, -⟩ := hfp
  have hr := ranges hvn
  clear hk hf hv hvn
  go_enter Tryd.func8, Tryd.ntmps8
  go_wp2_with fail
  have hba : Below w.heap.size w (w.alloc (.cells #[.int .i64 1, .string ⟨#[]⟩, .int .i64 s, .int .i64 vn, .string ⟨x.toArray⟩, .slice A 0 cap] 26)) := by go_grown
  refine (vtextRef_any s vn x _ hc hx hr.1 hr.2).mono ?_
  rintro e w1 ⟨rfl, hb1⟩
  go_wp2_with fail
  go_ret
  exact ⟨rfl, chain hba hb1⟩
set_option maxHeartbeats 2000000 in
theorem xtext_name (n : Str) (s vn : Int) (x : Str) (v : Value) (w : World) (hv : ExV All w v (.mk 2 n s vn x [])) : XSays (.mk 2 n s vn x []) v w := by
  unfold XSays
  have e : txtE (.mk 2 n s vn x []) = n := by simp [txtE]
  rw [e]
  clear e
  obtain ⟨A, L, cap, rfl, hk⟩ := hv.one'
  simp only [Ex.kind, Ex.name, Ex.vs, Ex.vn, Ex.vt, Ex.kids] at hk ⊢
  clear hk hv
  go_enter Tryd.func8, Tryd.ntmps8
  go_wp2_with fail
  go_ret
  exact ⟨rfl, by go_grown⟩
set_option maxHeartbeats 2000000 in
theorem xtext_one (m : Nat) (ih : XIH m) (n : Str) (s vn : Int) (x : Str) (c : Ex) (v : Value) (w : World) (hm : eparts (.mk 3 n s vn x [c]) ≤ m + 1) (hm2 : eparts (.mk 3 n s vn x [c]) ≤ 1000) (hv : ExV All w v (.mk 3 n s vn x [c])) (hf : ExFit 1048576 (.mk 3 n s vn x [c])) (hl : lone n = true) (hg : GoodE c) : XSays (.mk 3 n s vn x [c]) v w := by
  unfold XSays
  obtain ⟨R, hR⟩ : ∃ R, txtE (.mk 3 n s vn x [c]) = R := ⟨_, rfl⟩
  have HR : Hid (R = ahead n ++ paren (decide (c.kids.length = 2)) (txtE c)) := by
    show _ = _
    rw [← hR]
    simp [txtE]
  rw [hR]
  clear hR
  simp only [eparts, epartss, Nat.add_zero] at hm hm2
  obtain ⟨A, L, cap, rfl, hk⟩ := hv.one'
  simp only [Ex.kind_mk, Ex.name_mk, Ex.vs_mk, Ex.vn_mk, Ex.vt_mk, Ex.kids_mk] at hk ⊢
  obtain ⟨hL, -, b, off, A1, n1, p1, rfl, -, y0, y1, y2, y3, y4, y5, hk'⟩ := exkid_at hk (show [c][0]? = some c from rfl)
  simp only [Nat.zero_mul, Nat.add_zero, List.length_cons, List.length_nil, Nat.zero_add] at y0 y1 y2 y3 y4 y5 hL
  subst hL
  have hbl := cell_lt y0
  have HCF := Lib.hid (hf.parts.2.2.2.2.2.2 c (by simp [Ex.kids_mk]))
  have hn1 : n1 = c.kids.length := by obtain ⟨A', c', e, -, -⟩ := hk'; injection e
  obtain ⟨W, hW⟩ : ∃ W, (w.alloc (.cells #[.int .i64 3, .string ⟨n.toArray⟩, .int .i64 s, .int .i64 vn, .string ⟨x.toArray⟩, .slice (some ⟨b, off, none⟩) 1 cap] 26)) = W := ⟨_, rfl⟩
  have hba : Below w.heap.size w W := by rw [← hW]; go_grown
  have HB : Hid (ExBox W w.heap.size (.mk 3 n s vn x [c]) (.slice (some ⟨b, off, none⟩) 1 cap)) := by
    show ExBox _ _ _ _
    rw [← hW]
    exact new_exval w (.mk 3 n s vn x [c]) _ _
  have hlen : (txtE c).length ≤ 4000000000 := by
    have h1 := txt_len c HCF.out
    omega
  have HKC := Lib.hid (exV_of hk')
  have HCALL : Hid (∀ w1, Below w.heap.size w w1 → XSays c (.agg #[.int .i64 c.kind, .string ⟨c.name.toArray⟩, .int .i64 c.vs, .int .i64 c.vn, .string ⟨c.vt.toArray⟩, .slice A1 n1 p1]) w1) := Lib.hid (fun w1 hb1 => ih c (.agg #[.int .i64 c.kind, .string ⟨c.name.toArray⟩, .int .i64 c.vs, .int .i64 c.vn, .string ⟨c.vt.toArray⟩, .slice A1 n1 p1]) w1 (by omega) (by omega) (HKC.out.below hb1).all HCF.out hg)
  obtain ⟨T, hT'⟩ : ∃ T, txtE c = T := ⟨_, rfl⟩
  unfold XSays at HCALL
  rw [hT'] at HCALL HR hlen
  rw [← hn1] at HR
  have HW := Lib.hid hW
  clear hT' hv hk hf hg hm hm2 hk' hn1 hW HKC ih
  have hn : n = [110, 111, 116] ∨ n = [110, 101, 103] ∨ n = [35] := by simpa [lone] using hl
  clear hl
  have hWs : W.heap.size = w.heap.size + 1 := by rw [← HW.out]; simp
  obtain ⟨W2, hW2⟩ : ∃ W2, W.alloc (.cells #[.int .i64 c.kind, .string ⟨c.name.toArray⟩, .int .i64 c.vs, .int .i64 c.vn, .string ⟨c.vt.toArray⟩, .slice A1 n1 p1] 26) = W2 := ⟨_, rfl⟩
  have hb2 : Below w.heap.size w W2 := by rw [← hW2]; exact hba.alloc (by omega) _
  have HE1 : Hid (W2.cell? ⟨w.heap.size, 1, none⟩ = some (.string ⟨n.toArray⟩)) := by
    show _ = _
    rw [← hW2]
    exact cell_keep HB.out.c1 ((Below.refl _ _).alloc (Nat.le_refl _) _)
  have HE2 : Hid (W2.cell? ⟨w.heap.size + 1, 5, none⟩ = some (.slice A1 n1 p1)) := by
    show _ = _
    rw [← hW2, ← hWs]
    simp [go_sem]
  have HW2 : Hid ((w.alloc (.cells #[.int .i64 3, .string ⟨n.toArray⟩, .int .i64 s, .int .i64 vn, .string ⟨x.toArray⟩, .slice (some ⟨b, off, none⟩) 1 cap] 26)).alloc (.cells #[.int .i64 c.kind, .string ⟨c.name.toArray⟩, .int .i64 c.vs, .int .i64 c.vn, .string ⟨c.vt.toArray⟩, .slice A1 n1 p1] 26) = W2) := by
    show _ = _
    rw [HW.out, hW2]
  clear hW2 HB hWs HW hba
  rcases hn with rfl | rfl | rfl
  · have HR2 : Hid (R = [110, 111, 116, 32] ++ paren (decide (n1 = 2)) T) := HR
    clear HR
    by_cases h2 : n1 = 2
    · subst h2
      have q1 : ¬ 9223372036854775807 < 1 + T.length := by omega
      have q2 : ¬ 9223372036854775807 < 1 + T.length + 1 := by omega
      have q3 : ¬ 9223372036854775807 < T.length + 1 + 1 := by omega
      have q4 : ¬ 9223372036854775807 < 4 + (T.length + 1 + 1) := by omega
      have q5 : ¬ 9223372036854775807 < 4 + (1 + T.length + 1) := by omega
      go_enter Tryd.func8, Tryd.ntmps8
      go_wp2_with fail
      try rw [HW2.out]
      refine (HCALL.out _ hb2).mono ?_
      rintro e w1 ⟨rfl, hb1⟩
      have k1 := cell_keep HE1.out hb1
      have k5 := cell_keep HE2.out hb1
      have hb3 := chain hb2 hb1
      clear HW2 HE1 HE2
      go_wp2_with fail
      go_ret
      exact ⟨by rw [HR2.out]; rfl, hb3⟩
    · have h2' : ((n1 : Int) == 2) = false := by rw [beq_eq_false_iff_ne]; omega
      have q4 : ¬ 9223372036854775807 < 4 + T.length := by omega
      have HD := Lib.hid (decide_eq_false h2)
      clear h2
      go_enter Tryd.func8, Tryd.ntmps8
      go_wp2_with fail
      try rw [HW2.out]
      refine (HCALL.out _ hb2).mono ?_
      rintro e w1 ⟨rfl, hb1⟩
      have k1 := cell_keep HE1.out hb1
      have k5 := cell_keep HE2.out hb1
      have hb3 := chain hb2 hb1
      clear HW2 HE1 HE2
      go_wp2_with fail
      go_ret
      exact ⟨by rw [HR2.out, HD.out]; rfl, hb3⟩
  · have HR2 : Hid (R = [45, 32] ++ paren (decide (n1 = 2)) T) := HR
    clear HR
    by_cases h2 : n1 = 2
    · subst h2
      have q1 : ¬ 9223372036854775807 < 1 + T.length := by omega
      have q2 : ¬ 9223372036854775807 < 1 + T.length + 1 := by omega
      have q3 : ¬ 9223372036854775807 < T.length + 1 + 1 := by omega
      have q4 : ¬ 9223372036854775807 < 2 + (T.length + 1 + 1) := by omega
      have q5 : ¬ 9223372036854775807 < 2 + (1 + T.length + 1) := by omega
      go_enter Tryd.func8, Tryd.ntmps8
      go_wp2_with fail
      try rw [HW2.out]
      refine (HCALL.out _ hb2).mono ?_
      rintro e w1 ⟨rfl, hb1⟩
      have k1 := cell_keep HE1.out hb1
      have k5 := cell_keep HE2.out hb1
      have hb3 := chain hb2 hb1
      clear HW2 HE1 HE2
      go_wp2_with fail
      go_ret
      exact ⟨by rw [HR2.out]; rfl, hb3⟩
    · have h2' : ((n1 : Int) == 2) = false := by rw [beq_eq_false_iff_ne]; omega
      have q4 : ¬ 9223372036854775807 < 2 + T.length := by omega
      have HD := Lib.hid (decide_eq_false h2)
      clear h2
      go_enter Tryd.func8, Tryd.ntmps8
      go_wp2_with fail
      try rw [HW2.out]
      refine (HCALL.out _ hb2).mono ?_
      rintro e w1 ⟨rfl, hb1⟩
      have k1 := cell_keep HE1.out hb1
      have k5 := cell_keep HE2.out hb1
      have hb3 := chain hb2 hb1
      clear HW2 HE1 HE2
      go_wp2_with fail
      go_ret
      exact ⟨by rw [HR2.out, HD.out]; rfl, hb3⟩
  · have HR2 : Hid (R = [35] ++ paren (decide (n1 = 2)) T) := HR
    clear HR
    by_cases h2 : n1 = 2
    · subst h2
      have q1 : ¬ 9223372036854775807 < 1 + T.length := by omega
      have q2 : ¬ 9223372036854775807 < 1 + T.length + 1 := by omega
      have q3 : ¬ 9223372036854775807 < T.length + 1 + 1 := by omega
      have q4 : ¬ 9223372036854775807 < 1 + (T.length + 1 + 1) := by omega
      have q5 : ¬ 9223372036854775807 < 1 + (1 + T.length + 1) := by omega
      go_enter Tryd.func8, Tryd.ntmps8
      go_wp2_with fail
      try rw [HW2.out]
      refine (HCALL.out _ hb2).mono ?_
      rintro e w1 ⟨rfl, hb1⟩
      have k1 := cell_keep HE1.out hb1
      have k5 := cell_keep HE2.out hb1
      have hb3 := chain hb2 hb1
      clear HW2 HE1 HE2
      go_wp2_with fail
      go_ret
      exact ⟨by rw [HR2.out]; rfl, hb3⟩
    · have h2' : ((n1 : Int) == 2) = false := by rw [beq_eq_false_iff_ne]; omega
      have q4 : ¬ 9223372036854775807 < 1 + T.length := by omega
      have HD := Lib.hid (decide_eq_false h2)
      clear h2
      go_enter Tryd.func8, Tryd.ntmps8
      go_wp2_with fail
      try rw [HW2.out]
      refine (HCALL.out _ hb2).mono ?_
      rintro e w1 ⟨rfl, hb1⟩
      have k1 := cell_keep HE1.out hb1
      have k5 := cell_keep HE2.out hb1
      have hb3 := chain hb2 hb1
      clear HW2 HE1 HE2
      go_wp2_with fail
      go_ret
      exact ⟨by rw [HR2.out, HD.out]; rfl, hb3⟩
set_option maxHeartbeats 2000000 in
theorem side_any (m : Nat) (ih : XIH m) (t : Ex) (v : Value) (a : Int) (w : World) (hm : eparts t ≤ m) (hm2 : eparts t ≤ 1000) (hv : ExV All w v t) (hf : ExFit 1048576 t) (hg : GoodE t) :
    Calls Tryd.prog 23 #[v, .int .i64 a] w fun e w' => e = .returned (.string ⟨(wtxt a t).toArray⟩) ∧ Below w.heap.size w w' := by
  have HZ := Lib.hid hv
  obtain ⟨A, L, cap, rfl, hk⟩ := hv.one'
  have hLL : L = t.kids.length := by obtain ⟨A', c', e, -, -⟩ := hk; injection e
  have hlen : (txtE t).length ≤ 4000000000 := by have h1 := txt_len t hf; omega
  obtain ⟨T, hT⟩ : ∃ T, txtE t = T := ⟨_, rfl⟩
  obtain ⟨R, hR⟩ : ∃ R, wtxt a t = R := ⟨_, rfl⟩
  have HR : Hid (R = paren (decide (L = 2 ∧ level t.name < a)) T) := by
    show _ = _
    rw [← hR, hLL, ← hT]
    rfl
  rw [hR]
  obtain ⟨W, hW⟩ : ∃ W, w.alloc (.cells #[.int .i64 t.kind, .string ⟨t.name.toArray⟩, .int .i64 t.vs, .int .i64 t.vn, .string ⟨t.vt.toArray⟩, .slice A L cap] 26) = W := ⟨_, rfl⟩
  have hbx : Hid (ExBox W w.heap.size t (.slice A L cap)) := by subst hW; exact new_exval w t (.slice A L cap) 26
  have hb0 : Below w.heap.size w W := by subst hW; exact (Below.refl _ _).alloc (Nat.le_refl _) _
  have HCALL := ih t (.agg #[.int .i64 t.kind, .string ⟨t.name.toArray⟩, .int .i64 t.vs, .int .i64 t.vn, .string ⟨t.vt.toArray⟩, .slice A L cap]) W hm hm2 (HZ.out.below hb0) hf hg
  unfold XSays at HCALL
  rw [hT] at HCALL hlen
  have HC := Lib.hid HCALL
  have HW := Lib.hid hW
  obtain ⟨nm, hnm⟩ : ∃ nm, t.name = nm := ⟨_, rfl⟩
  clear HCALL hR hT hv hk hf hg hm hm2 hLL HZ ih hW
  have q1 : ¬ 9223372036854775807 < 1 + T.length := by omega
  have q2 : ¬ 9223372036854775807 < 1 + T.length + 1 := by omega
  have q3 : ¬ 9223372036854775807 < T.length + 1 + 1 := by omega
  obtain ⟨LV, hLV⟩ : ∃ LV, level t.name = LV := ⟨_, rfl⟩
  have HLV := Lib.hid (refLevel_any t.name)
  rw [hLV] at HLV HR
  clear hLV hnm
  by_cases h2 : L = 2
  · subst h2
    by_cases hl : LV < a
    · have HRR : Hid (R = 40 :: (T ++ [41])) := by
        show _ = _
        rw [HR.out, decide_eq_true ⟨rfl, hl⟩]
        rfl
      clear HR
      go_enter Tryd.func23, Tryd.ntmps23
      go_wp2_with fail
      try rw [HW.out]
      refine HC.out.mono ?_
      rintro e w1 ⟨rfl, hb1⟩
      obtain ⟨b0, b1, b2, b3, b4, b5, b6, b7⟩ := hbx.out.keep hb1 hbx.out.lt
      have hb3 := chain hb0 hb1
      clear HW
      go_wp2_with fail
      refine (HLV.out _).mono ?_
      rintro e w2 ⟨rfl, hb2⟩
      go_wp2_with fail
      go_ret
      exact ⟨by rw [HRR.out]; rfl, chain hb3 hb2⟩
    · have HRR : Hid (R = T) := by
        show _ = _
        rw [HR.out, decide_eq_false (fun h => hl h.2)]
        rfl
      clear HR
      go_enter Tryd.func23, Tryd.ntmps23
      go_wp2_with fail
      try rw [HW.out]
      refine HC.out.mono ?_
      rintro e w1 ⟨rfl, hb1⟩
      obtain ⟨b0, b1, b2, b3, b4, b5, b6, b7⟩ := hbx.out.keep hb1 hbx.out.lt
      have hb3 := chain hb0 hb1
      clear HW
      go_wp2_with fail
      refine (HLV.out _).mono ?_
      rintro e w2 ⟨rfl, hb2⟩
      go_wp2_with fail
      go_ret
      exact ⟨by rw [HRR.out]; rfl, chain hb3 hb2⟩
  · have h2' : ((L : Int) == 2) = false := by rw [beq_eq_false_iff_ne]; omega
    have HRR : Hid (R = T) := by
      show _ = _
      rw [HR.out, decide_eq_false (fun h => h2 h.1)]
      rfl
    clear HR
    clear h2
    go_enter Tryd.func23, Tryd.ntmps23
    go_wp2_with fail
    try rw [HW.out]
    refine HC.out.mono ?_
    rintro e w1 ⟨rfl, hb1⟩
    obtain ⟨b0, b1, b2, b3, b4, b5, b6, b7⟩ := hbx.out.keep hb1 hbx.out.lt
    have hb3 := chain hb0 hb1
    clear HW
    go_wp2_with fail
    go_ret
    exact ⟨by rw [HRR.out]; rfl, hb3⟩
set_option maxHeartbeats 2000000 in
theorem xtext_two (m : Nat) (ih : XIH m) (n : Str) (s vn : Int) (x : Str) (c d : Ex) (v : Value) (w : World) (hm : eparts (.mk 3 n s vn x [c, d]) ≤ m + 1) (hm2 : eparts (.mk 3 n s vn x [c, d]) ≤ 1000) (hv : ExV All w v (.mk 3 n s vn x [c, d])) (hf : ExFit 1048576 (.mk 3 n s vn x [c, d])) (hl : 0 < level n) (hg : GoodE c) (hg' : GoodE d) : XSays (.mk 3 n s vn x [c, d]) v w := by
  unfold XSays
  obtain ⟨R, hR⟩ : ∃ R, txtE (.mk 3 n s vn x [c, d]) = R := ⟨_, rfl⟩
  have HR : Hid (R = wtxt (level n) c ++ ([32] ++ n ++ [32]) ++ wtxt (level n + 1) d) := by
    show _ = _
    rw [← hR]
    simp [wtxt, txtE]
  rw [hR]
  clear hR
  simp only [eparts, epartss, Nat.add_zero] at hm hm2
  obtain ⟨A, L, cap, rfl, hk⟩ := hv.one'
  simp only [Ex.kind_mk, Ex.name_mk, Ex.vs_mk, Ex.vn_mk, Ex.vt_mk, Ex.kids_mk] at hk ⊢
  obtain ⟨hL, -, b, off, A1, n1, p1, rfl, -, y0, y1, y2, y3, y4, y5, hk'⟩ := exkid_at hk (show [c, d][0]? = some c from rfl)
  obtain ⟨-, -, b2, off2, A2, n2, p2, e2, -, z0, z1, z2, z3, z4, z5, hk2⟩ := exkid_at hk (show [c, d][1]? = some d from rfl)
  injection e2 with e2
  injection e2 with e3 e4
  subst e3 e4
  simp only [Nat.zero_mul, Nat.one_mul, Nat.add_zero, List.length_cons, List.length_nil, Nat.zero_add] at y0 y1 y2 y3 y4 y5 z0 z1 z2 z3 z4 z5 hL
  subst hL
  have hbl := cell_lt y0
  have hfp := hf.parts
  simp only [Ex.name_mk, Ex.kids_mk] at hfp
  have hnl := hfp.2.1
  have HCF := Lib.hid (hfp.2.2.2.2.2.2 c (by simp))
  have HDF := Lib.hid (hfp.2.2.2.2.2.2 d (by simp))
  obtain ⟨W, hW⟩ : ∃ W, w.alloc (.cells #[.int .i64 3, .string ⟨n.toArray⟩, .int .i64 s, .int .i64 vn, .string ⟨x.toArray⟩, .slice (some ⟨b, off, none⟩) 2 cap] 26) = W := ⟨_, rfl⟩
  have hba : Below w.heap.size w W := by rw [← hW]; go_grown
  have HB : Hid (ExBox W w.heap.size (.mk 3 n s vn x [c, d]) (.slice (some ⟨b, off, none⟩) 2 cap)) := by
    show ExBox _ _ _ _
    rw [← hW]
    exact new_exval w (.mk 3 n s vn x [c, d]) _ _
  have HW := Lib.hid hW
  have hlv := level_lt n
  have HCD : Hid (∀ w1, Below w.heap.size w w1 → Calls Tryd.prog 23 #[(.agg #[.int .i64 c.kind, .string ⟨c.name.toArray⟩, .int .i64 c.vs, .int .i64 c.vn, .string ⟨c.vt.toArray⟩, .slice A1 n1 p1]), .int .i64 (level n)] w1 fun e w' => e = .returned (.string ⟨(wtxt (level n) c).toArray⟩) ∧ Below w1.heap.size w1 w') := Lib.hid (fun w1 hb1 => side_any m ih c _ (level n) w1 (by omega) (by omega) ((exV_of hk').keep (Same.below hb1) (fun _ _ _ => trivial)) HCF.out hg)
  have HDD : Hid (∀ w1, Below w.heap.size w w1 → Calls Tryd.prog 23 #[(.agg #[.int .i64 d.kind, .string ⟨d.name.toArray⟩, .int .i64 d.vs, .int .i64 d.vn, .string ⟨d.vt.toArray⟩, .slice A2 n2 p2]), .int .i64 (level n + 1)] w1 fun e w' => e = .returned (.string ⟨(wtxt (level n + 1) d).toArray⟩) ∧ Below w1.heap.size w1 w') := Lib.hid (fun w1 hb1 => side_any m ih d _ (level n + 1) w1 (by omega) (by omega) ((exV_of hk2).keep (Same.below hb1) (fun _ _ _ => trivial)) HDF.out hg')
  have hlen : (wtxt (level n) c).length ≤ 4000000000 ∧ (wtxt (level n + 1) d).length ≤ 4000000000 := by
    have h1 := txt_len c HCF.out
    have h2 := paren_len (decide (c.kids.length = 2 ∧ level c.name < level n)) (txtE c)
    have h3 := txt_len d HDF.out
    have h4 := paren_len (decide (d.kids.length = 2 ∧ level d.name < level n + 1)) (txtE d)
    unfold wtxt
    omega
  obtain ⟨T1, hT1⟩ : ∃ T, wtxt (level n) c = T := ⟨_, rfl⟩
  obtain ⟨T2, hT2⟩ : ∃ T, wtxt (level n + 1) d = T := ⟨_, rfl⟩
  rw [hT1] at HCD HR hlen
  rw [hT2] at HDD HR hlen
  obtain ⟨hl1, hl2⟩ := hlen
  have HWR : Hid (IntKind.i64.wrap (level n + 1) = level n + 1) := Lib.hid (by simp [IntKind.wrap, IntKind.bits, IntKind.signed]; omega)
  have HLV := Lib.hid (refLevel_any n)
  clear hT1 hT2 hv hk hf hg hg' hm hm2 hk' hk2 hfp ih hW
  go_enter Tryd.func8, Tryd.ntmps8
  go_wp2_with fail
  try rw [HW.out]
  refine (HLV.out _).mono ?_
  rintro e w1 ⟨rfl, hb1⟩
  obtain ⟨k0, k1, k2, k3, k4, k5, k6, k7⟩ := HB.out.keep hb1 HB.out.lt
  simp only [Ex.kind_mk, Ex.name_mk, Ex.vs_mk, Ex.vn_mk, Ex.vt_mk] at k0 k1 k2 k3 k4 k5
  have hb3 := chain hba hb1
  clear HW
  have r0 := cell_keep y0 hb3
  have u0 := cell_keep z0 hb3
  have r1 := cell_keep y1 hb3
  have u1 := cell_keep z1 hb3
  have r2 := cell_keep y2 hb3
  have u2 := cell_keep z2 hb3
  have r3 := cell_keep y3 hb3
  have u3 := cell_keep z3 hb3
  have r4 := cell_keep y4 hb3
  have u4 := cell_keep z4 hb3
  have r5 := cell_keep y5 hb3
  have u5 := cell_keep z5 hb3
  have hS : ∀ w' : World, Below w1.heap.size w1 w' → (fun w' : World => w'.cell? ⟨w.heap.size, 1, none⟩ = some (.string ⟨n.toArray⟩) ∧ w'.cell? ⟨w.heap.size, 5, none⟩ = some (.slice (some ⟨b, off, none⟩) 2 cap) ∧ w'.cell? ⟨b, off, none⟩ = some (.int .i64 c.kind) ∧ w'.cell? ⟨b, off + 1, none⟩ = some (.string ⟨c.name.toArray⟩) ∧ w'.cell? ⟨b, off + 2, none⟩ = some (.int .i64 c.vs) ∧ w'.cell? ⟨b, off + 3, none⟩ = some (.int .i64 c.vn) ∧ w'.cell? ⟨b, off + 4, none⟩ = some (.string ⟨c.vt.toArray⟩) ∧ w'.cell? ⟨b, off + 5, none⟩ = some (.slice A1 n1 p1) ∧ w'.cell? ⟨b, off + 6, none⟩ = some (.int .i64 d.kind) ∧ w'.cell? ⟨b, off + 6 + 1, none⟩ = some (.string ⟨d.name.toArray⟩) ∧ w'.cell? ⟨b, off + 6 + 2, none⟩ = some (.int .i64 d.vs) ∧ w'.cell? ⟨b, off + 6 + 3, none⟩ = some (.int .i64 d.vn) ∧ w'.cell? ⟨b, off + 6 + 4, none⟩ = some (.string ⟨d.vt.toArray⟩) ∧ w'.cell? ⟨b, off + 6 + 5, none⟩ = some (.slice A2 n2 p2)) w' := fun w' h => ⟨cell_keep k1 h, cell_keep k5 h, cell_keep r0 h, cell_keep r1 h, cell_keep r2 h, cell_keep r3 h, cell_keep r4 h, cell_keep r5 h, cell_keep u0 h, cell_keep u1 h, cell_keep u2 h, cell_keep u3 h, cell_keep u4 h, cell_keep u5 h⟩
  have HSd := Lib.hid (hS w1.drew (Below.refl _ _).drew)
  have HSB := Lib.hid hS
  clear hS
  go_wp2_with fail
  refine wp_region_T 21 (fun w' : World => w'.cell? ⟨w.heap.size, 1, none⟩ = some (.string ⟨n.toArray⟩) ∧ w'.cell? ⟨w.heap.size, 5, none⟩ = some (.slice (some ⟨b, off, none⟩) 2 cap) ∧ w'.cell? ⟨b, off, none⟩ = some (.int .i64 c.kind) ∧ w'.cell? ⟨b, off + 1, none⟩ = some (.string ⟨c.name.toArray⟩) ∧ w'.cell? ⟨b, off + 2, none⟩ = some (.int .i64 c.vs) ∧ w'.cell? ⟨b, off + 3, none⟩ = some (.int .i64 c.vn) ∧ w'.cell? ⟨b, off + 4, none⟩ = some (.string ⟨c.vt.toArray⟩) ∧ w'.cell? ⟨b, off + 5, none⟩ = some (.slice A1 n1 p1) ∧ w'.cell? ⟨b, off + 6, none⟩ = some (.int .i64 d.kind) ∧ w'.cell? ⟨b, off + 6 + 1, none⟩ = some (.string ⟨d.name.toArray⟩) ∧ w'.cell? ⟨b, off + 6 + 2, none⟩ = some (.int .i64 d.vs) ∧ w'.cell? ⟨b, off + 6 + 3, none⟩ = some (.int .i64 d.vn) ∧ w'.cell? ⟨b, off + 6 + 4, none⟩ = some (.string ⟨d.vt.toArray⟩) ∧ w'.cell? ⟨b, off + 6 + 5, none⟩ = some (.slice A2 n2 p2)) (by kernel_rfl) ?_
  refine wpT_take (i := 0) (v := ?_) rfl (by kernel_rfl) (by kernel_rfl) (by kernel_rfl) (by kernel_rfl) (fun _ _ _ h => h) (Or.inl ⟨by rfl, ?_⟩) HSd.out ?_
  rotate_left
  · (intro wq hSw; obtain ⟨q0, q1, q2, q3, q4, q5, q6, q7, q8, q9, q10, q11, q12, q13⟩ := hSw; go_simp; all_goals (first | (with_reducible rfl) | (rw [if_neg (by first | omega | (simp; omega) | (simp only [List.length_append, List.length_cons, List.length_nil]; omega))])))
  simp only [List.getElem_toArray, List.getElem_cons_succ, List.getElem_cons_zero, Act.put, List.setIfInBounds_toArray, List.set_cons_zero, List.set_cons_succ]
  refine wpT_take (i := 1) (v := ?_) rfl (by kernel_rfl) (by kernel_rfl) (by kernel_rfl) (by kernel_rfl) (fun _ _ _ h => h) (Or.inl ⟨by rfl, ?_⟩) HSd.out ?_
  rotate_left
  · (intro wq hSw; obtain ⟨q0, q1, q2, q3, q4, q5, q6, q7, q8, q9, q10, q11, q12, q13⟩ := hSw; go_simp; all_goals (first | (with_reducible rfl) | (rw [if_neg (by first | omega | (simp; omega) | (simp only [List.length_append, List.length_cons, List.length_nil]; omega))])))
  simp only [List.getElem_toArray, List.getElem_cons_succ, List.getElem_cons_zero, Act.put, List.setIfInBounds_toArray, List.set_cons_zero, List.set_cons_succ]
  refine wpT_take (i := 2) (v := ?_) rfl (by kernel_rfl) (by kernel_rfl) (by kernel_rfl) (by kernel_rfl) (fun _ _ _ h => h) (Or.inl ⟨by rfl, ?_⟩) HSd.out ?_
  rotate_left
  · (intro wq hSw; obtain ⟨q0, q1, q2, q3, q4, q5, q6, q7, q8, q9, q10, q11, q12, q13⟩ := hSw; go_simp; all_goals (first | (with_reducible rfl) | (rw [if_neg (by first | omega | (simp; omega) | (simp only [List.length_append, List.length_cons, List.length_nil]; omega))])))
  simp only [List.getElem_toArray, List.getElem_cons_succ, List.getElem_cons_zero, Act.put, List.setIfInBounds_toArray, List.set_cons_zero, List.set_cons_succ]
  refine wpT_take (i := 3) (v := ?_) rfl (by kernel_rfl) (by kernel_rfl) (by kernel_rfl) (by kernel_rfl) (fun _ _ _ h => h) (Or.inl ⟨by rfl, ?_⟩) HSd.out ?_
  rotate_left
  · (intro wq hSw; obtain ⟨q0, q1, q2, q3, q4, q5, q6, q7, q8, q9, q10, q11, q12, q13⟩ := hSw; go_simp; all_goals (first | (with_reducible rfl) | (rw [if_neg (by first | omega | (simp; omega) | (simp only [List.length_append, List.length_cons, List.length_nil]; omega))])))
  simp only [List.getElem_toArray, List.getElem_cons_succ, List.getElem_cons_zero, Act.put, List.setIfInBounds_toArray, List.set_cons_zero, List.set_cons_succ]
  refine wpT_take (i := 4) (v := ?_) rfl (by kernel_rfl) (by kernel_rfl) (by kernel_rfl) (by kernel_rfl) (fun _ _ _ h => h) (Or.inl ⟨by rfl, ?_⟩) HSd.out ?_
  rotate_left
  · (intro wq hSw; obtain ⟨q0, q1, q2, q3, q4, q5, q6, q7, q8, q9, q10, q11, q12, q13⟩ := hSw; go_simp; all_goals (first | (with_reducible rfl) | (rw [if_neg (by first | omega | (simp; omega) | (simp only [List.length_append, List.length_cons, List.length_nil]; omega))])))
  simp only [List.getElem_toArray, List.getElem_cons_succ, List.getElem_cons_zero, Act.put, List.setIfInBounds_toArray, List.set_cons_zero, List.set_cons_succ]
  refine wpT_take (i := 5) (v := ?_) rfl (by kernel_rfl) (by kernel_rfl) (by kernel_rfl) (by kernel_rfl) (fun _ _ _ h => h) (Or.inl ⟨by rfl, ?_⟩) HSd.out ?_
  rotate_left
  · (intro wq hSw; obtain ⟨q0, q1, q2, q3, q4, q5, q6, q7, q8, q9, q10, q11, q12, q13⟩ := hSw; go_simp; all_goals (first | (with_reducible rfl) | (rw [if_neg (by first | omega | (simp; omega) | (simp only [List.length_append, List.length_cons, List.length_nil]; omega))])))
  simp only [List.getElem_toArray, List.getElem_cons_succ, List.getElem_cons_zero, Act.put, List.setIfInBounds_toArray, List.set_cons_zero, List.set_cons_succ]
  refine wpT_take (i := 8) (v := ?_) rfl (by kernel_rfl) (by kernel_rfl) (by kernel_rfl) (by kernel_rfl) (fun _ _ _ h => h) (Or.inl ⟨by rfl, ?_⟩) HSd.out ?_
  rotate_left
  · (intro wq hSw; obtain ⟨q0, q1, q2, q3, q4, q5, q6, q7, q8, q9, q10, q11, q12, q13⟩ := hSw; go_simp; all_goals (first | (with_reducible rfl) | (rw [if_neg (by first | omega | (simp; omega) | (simp only [List.length_append, List.length_cons, List.length_nil]; omega))])))
  simp only [List.getElem_toArray, List.getElem_cons_succ, List.getElem_cons_zero, Act.put, List.setIfInBounds_toArray, List.set_cons_zero, List.set_cons_succ]
  refine wpT_take (i := 9) (v := ?_) rfl (by kernel_rfl) (by kernel_rfl) (by kernel_rfl) (by kernel_rfl) (fun _ _ _ h => h) (Or.inl ⟨by rfl, ?_⟩) HSd.out ?_
  rotate_left
  · (intro wq hSw; obtain ⟨q0, q1, q2, q3, q4, q5, q6, q7, q8, q9, q10, q11, q12, q13⟩ := hSw; go_simp; all_goals (first | (with_reducible rfl) | (rw [if_neg (by first | omega | (simp; omega) | (simp only [List.length_append, List.length_cons, List.length_nil]; omega))])))
  simp only [List.getElem_toArray, List.getElem_cons_succ, List.getElem_cons_zero, Act.put, List.setIfInBounds_toArray, List.set_cons_zero, List.set_cons_succ]
  refine wpT_take (i := 12) (v := ?_) rfl (by kernel_rfl) (by kernel_rfl) (by kernel_rfl) (by kernel_rfl) (fun _ _ _ h => h) (Or.inl ⟨by rfl, ?_⟩) HSd.out ?_
  rotate_left
  · (intro wq hSw; obtain ⟨q0, q1, q2, q3, q4, q5, q6, q7, q8, q9, q10, q11, q12, q13⟩ := hSw; go_simp; all_goals (first | (with_reducible rfl) | (rw [if_neg (by first | omega | (simp; omega) | (simp only [List.length_append, List.length_cons, List.length_nil]; omega))])))
  simp only [List.getElem_toArray, List.getElem_cons_succ, List.getElem_cons_zero, Act.put, List.setIfInBounds_toArray, List.set_cons_zero, List.set_cons_succ]
  refine wpT_take (i := 13) (v := ?_) rfl (by kernel_rfl) (by kernel_rfl) (by kernel_rfl) (by kernel_rfl) (fun _ _ _ h => h) (Or.inl ⟨by rfl, ?_⟩) HSd.out ?_
  rotate_left
  · (intro wq hSw; obtain ⟨q0, q1, q2, q3, q4, q5, q6, q7, q8, q9, q10, q11, q12, q13⟩ := hSw; go_simp; all_goals (first | (with_reducible rfl) | (rw [if_neg (by first | omega | (simp; omega) | (simp only [List.length_append, List.length_cons, List.length_nil]; omega))])))
  simp only [List.getElem_toArray, List.getElem_cons_succ, List.getElem_cons_zero, Act.put, List.setIfInBounds_toArray, List.set_cons_zero, List.set_cons_succ]
  refine wpT_take (i := 14) (v := ?_) rfl (by kernel_rfl) (by kernel_rfl) (by kernel_rfl) (by kernel_rfl) (fun _ _ _ h => h) (Or.inl ⟨by rfl, ?_⟩) HSd.out ?_
  rotate_left
  · (intro wq hSw; obtain ⟨q0, q1, q2, q3, q4, q5, q6, q7, q8, q9, q10, q11, q12, q13⟩ := hSw; go_simp; all_goals (first | (with_reducible rfl) | (rw [if_neg (by first | omega | (simp; omega) | (simp only [List.length_append, List.length_cons, List.length_nil]; omega))])))
  simp only [List.getElem_toArray, List.getElem_cons_succ, List.getElem_cons_zero, Act.put, List.setIfInBounds_toArray, List.set_cons_zero, List.set_cons_succ]
  refine wpT_take (i := 15) (v := ?_) rfl (by kernel_rfl) (by kernel_rfl) (by kernel_rfl) (by kernel_rfl) (fun _ _ _ h => h) (Or.inl ⟨by rfl, ?_⟩) HSd.out ?_
  rotate_left
  · (intro wq hSw; obtain ⟨q0, q1, q2, q3, q4, q5, q6, q7, q8, q9, q10, q11, q12, q13⟩ := hSw; go_simp; all_goals (first | (with_reducible rfl) | (rw [if_neg (by first | omega | (simp; omega) | (simp only [List.length_append, List.length_cons, List.length_nil]; omega))])))
  simp only [List.getElem_toArray, List.getElem_cons_succ, List.getElem_cons_zero, Act.put, List.setIfInBounds_toArray, List.set_cons_zero, List.set_cons_succ]
  refine wpT_take (i := 16) (v := ?_) rfl (by kernel_rfl) (by kernel_rfl) (by kernel_rfl) (by kernel_rfl) (fun _ _ _ h => h) (Or.inl ⟨by rfl, ?_⟩) HSd.out ?_
  rotate_left
  · (intro wq hSw; obtain ⟨q0, q1, q2, q3, q4, q5, q6, q7, q8, q9, q10, q11, q12, q13⟩ := hSw; go_simp; all_goals (first | (with_reducible rfl) | (rw [if_neg (by first | omega | (simp; omega) | (simp only [List.length_append, List.length_cons, List.length_nil]; omega))])))
  simp only [List.getElem_toArray, List.getElem_cons_succ, List.getElem_cons_zero, Act.put, List.setIfInBounds_toArray, List.set_cons_zero, List.set_cons_succ]
  refine wpT_take (i := 17) (v := ?_) rfl (by kernel_rfl) (by kernel_rfl) (by kernel_rfl) (by kernel_rfl) (fun _ _ _ h => h) (Or.inl ⟨by rfl, ?_⟩) HSd.out ?_
  rotate_left
  · (intro wq hSw; obtain ⟨q0, q1, q2, q3, q4, q5, q6, q7, q8, q9, q10, q11, q12, q13⟩ := hSw; go_simp; all_goals (first | (with_reducible rfl) | (rw [if_neg (by first | omega | (simp; omega) | (simp only [List.length_append, List.length_cons, List.length_nil]; omega))])))
  simp only [List.getElem_toArray, List.getElem_cons_succ, List.getElem_cons_zero, Act.put, List.setIfInBounds_toArray, List.set_cons_zero, List.set_cons_succ]
  refine wpT_take (i := 18) (v := ?_) rfl (by kernel_rfl) (by kernel_rfl) (by kernel_rfl) (by kernel_rfl) (fun _ _ _ h => h) (Or.inl ⟨by rfl, ?_⟩) HSd.out ?_
  rotate_left
  · (intro wq hSw; obtain ⟨q0, q1, q2, q3, q4, q5, q6, q7, q8, q9, q10, q11, q12, q13⟩ := hSw; go_simp; all_goals (first | (with_reducible rfl) | (rw [if_neg (by first | omega | (simp; omega) | (simp only [List.length_append, List.length_cons, List.length_nil]; omega))])))
  simp only [List.getElem_toArray, List.getElem_cons_succ, List.getElem_cons_zero, Act.put, List.setIfInBounds_toArray, List.set_cons_zero, List.set_cons_succ]
  refine wpT_one (i := 6) rfl (by kernel_rfl) fun K hK => ?_
  go_simp
  refine (HCD.out _ hb3.drew).mono ?_
  rintro e w2 ⟨rfl, hq⟩
  have hb4 := chain (Below.refl w1.heap.size w1).drew hq
  clear hq
  refine hK.out _ _ (fun _ => HSB.out _ hb4) ?_
  clear hK K
  try simp only [List.getElem_toArray, List.getElem_cons_succ, List.getElem_cons_zero, Act.put, List.setIfInBounds_toArray, List.set_cons_zero, List.set_cons_succ]
  refine wpT_take (i := 7) (v := ?_) rfl (by kernel_rfl) (by kernel_rfl) (by kernel_rfl) (by kernel_rfl) (fun _ _ _ h => h) (Or.inl ⟨by rfl, ?_⟩) (HSB.out _ hb4) ?_
  rotate_left
  · (intro wq hSw; obtain ⟨q0, q1, q2, q3, q4, q5, q6, q7, q8, q9, q10, q11, q12, q13⟩ := hSw; go_simp; all_goals (first | (with_reducible rfl) | (rw [if_neg (by first | omega | (simp; omega) | (simp only [List.length_append, List.length_cons, List.length_nil]; omega))])))
  simp only [List.getElem_toArray, List.getElem_cons_succ, List.getElem_cons_zero, Act.put, List.setIfInBounds_toArray, List.set_cons_zero, List.set_cons_succ]
  refine wpT_take (i := 10) (v := ?_) rfl (by kernel_rfl) (by kernel_rfl) (by kernel_rfl) (by kernel_rfl) (fun _ _ _ h => h) (Or.inl ⟨by rfl, ?_⟩) (HSB.out _ hb4) ?_
  rotate_left
  · (intro wq hSw; obtain ⟨q0, q1, q2, q3, q4, q5, q6, q7, q8, q9, q10, q11, q12, q13⟩ := hSw; go_simp; all_goals (first | (with_reducible rfl) | (rw [if_neg (by first | omega | (simp; omega) | (simp only [List.length_append, List.length_cons, List.length_nil]; omega))])))
  simp only [List.getElem_toArray, List.getElem_cons_succ, List.getElem_cons_zero, Act.put, List.setIfInBounds_toArray, List.set_cons_zero, List.set_cons_succ]
  refine wpT_take (i := 11) (v := ?_) rfl (by kernel_rfl) (by kernel_rfl) (by kernel_rfl) (by kernel_rfl) (fun _ _ _ h => h) (Or.inl ⟨by rfl, ?_⟩) (HSB.out _ hb4) ?_
  rotate_left
  · (intro wq hSw; obtain ⟨q0, q1, q2, q3, q4, q5, q6, q7, q8, q9, q10, q11, q12, q13⟩ := hSw; go_simp; all_goals (first | (with_reducible rfl) | (rw [if_neg (by first | omega | (simp; omega) | (simp only [List.length_append, List.length_cons, List.length_nil]; omega))])))
  simp only [List.getElem_toArray, List.getElem_cons_succ, List.getElem_cons_zero, Act.put, List.setIfInBounds_toArray, List.set_cons_zero, List.set_cons_succ]
  refine wpT_one (i := 19) rfl (by kernel_rfl) fun K hK => ?_
  go_simp
  rw [HWR.out]
  refine (HDD.out w2 (chain hb3 hb4)).mono ?_
  rintro e w3 ⟨rfl, hq⟩
  have hb5 := chain hb4 hq
  clear hq
  refine hK.out _ _ (fun _ => HSB.out _ hb5) ?_
  clear hK K
  try simp only [List.getElem_toArray, List.getElem_cons_succ, List.getElem_cons_zero, Act.put, List.setIfInBounds_toArray, List.set_cons_zero, List.set_cons_succ]
  refine wpT_take (i := 20) (v := ?_) rfl (by kernel_rfl) (by kernel_rfl) (by kernel_rfl) (by kernel_rfl) (fun _ _ _ h => h) (Or.inl ⟨by rfl, ?_⟩) (HSB.out _ hb5) ?_
  rotate_left
  · (intro wq hSw; obtain ⟨q0, q1, q2, q3, q4, q5, q6, q7, q8, q9, q10, q11, q12, q13⟩ := hSw; go_simp; all_goals (first | (with_reducible rfl) | (rw [if_neg (by first | omega | (simp; omega) | (simp only [List.length_append, List.length_cons, List.length_nil]; omega))])))
  simp only [List.getElem_toArray, List.getElem_cons_succ, List.getElem_cons_zero, Act.put, List.setIfInBounds_toArray, List.set_cons_zero, List.set_cons_succ]
  refine wpT_one (i := 21) rfl (by kernel_rfl) fun K hK => ?_
  go_simp
  refine hK.out _ _ (fun h => absurd h (by decide)) ?_
  clear hK K
  try simp only [List.getElem_toArray, List.getElem_cons_succ, List.getElem_cons_zero, Act.put, List.setIfInBounds_toArray, List.set_cons_zero, List.set_cons_succ]
  refine wpT_done (by kernel_rfl) ?_
  go_wp2_with fail
  go_ret
  exact ⟨by rw [HR.out]; simp, chain hb3 hb5⟩
theorem xtext_any : ∀ (m : Nat), XIH m := by
  intro m
  induction m with
  | zero => intro t v w h; cases t; simp only [eparts] at h; omega
  | succ m ih =>
  intro t v w hm hm2 hv hf hg
  rcases good_cases hg with ⟨s, vn, x, rfl, hc⟩ | ⟨n, s, vn, x, rfl⟩ | ⟨n, s, vn, x, c, rfl, hl, h1⟩ | ⟨n, s, vn, x, c, d, rfl, hl, h1, h2⟩
  · exact xtext_lit s vn x v w hv hf hc
  · exact xtext_name n s vn x v w hv
  · exact xtext_one m ih n s vn x c v w hm hm2 hv hf hl h1
  · exact xtext_two m ih n s vn x c d v w hm hm2 hv hf hl h1 h2
end Go.Proofs.YtmklodgcbldndaaDoor
namespace Go.Proofs.YtmklodgcbldndaaDoor
open Go.RowKit Go.Proofs

/-- The letters of a text, none where it is no UTF-8 (fuel: its length). -/
def lettersGo : Nat → List UInt8 → Option (List Int)
  | 0, _ => some []
  | n + 1, l => if l = [] then some [] else if (Lib.decodeL l).1 = 65533 ∧ (Lib.decodeL l).2 < 2 then none
      else (lettersGo n (l.drop (Lib.decodeL l).2)).map (((Lib.decodeL l).1 : Int) :: ·)
def letters (l : List UInt8) : Option (List Int) := lettersGo l.length l

theorem lettersGo_more : ∀ (n m : Nat) (l : List UInt8), l.length ≤ n → n ≤ m → lettersGo m l = lettersGo n l := by
  intro n
  induction n with
  | zero =>
    intro m l h _
    have : l = [] := List.eq_nil_of_length_eq_zero (by omega)
    subst this
    cases m <;> simp [lettersGo]
  | succ n ih =>
    intro m l h hm
    obtain ⟨k, rfl⟩ : ∃ k, m = k + 1 := ⟨m - 1, by omega⟩
    simp only [lettersGo]
    by_cases he : l = []
    · simp [he]
    · have := Lib.decodeL_width l
      have hl : 0 < l.length := List.length_pos_iff.2 he
      rw [ih k (l.drop (Lib.decodeL l).2) (by rw [List.length_drop]; omega) (by omega)]
theorem letters_nil : letters [] = some [] := rfl
theorem letters_bad {l : List UInt8} (h0 : l ≠ []) (h : (Lib.decodeL l).1 = 65533 ∧ (Lib.decodeL l).2 < 2) : letters l = none := by
  unfold letters
  obtain ⟨k, hk⟩ : ∃ k, l.length = k + 1 := ⟨l.length - 1, by have := List.length_pos_iff.2 h0; omega⟩
  rw [hk, lettersGo, if_neg h0, if_pos h]
theorem letters_cons {l : List UInt8} (h0 : l ≠ []) (h : ¬ ((Lib.decodeL l).1 = 65533 ∧ (Lib.decodeL l).2 < 2)) :
    letters l = (letters (l.drop (Lib.decodeL l).2)).map (((Lib.decodeL l).1 : Int) :: ·) := by
  unfold letters
  have := Lib.decodeL_width l
  obtain ⟨k, hk⟩ : ∃ k, l.length = k + 1 := ⟨l.length - 1, by have := List.length_pos_iff.2 h0; omega⟩
  rw [hk, lettersGo, if_neg h0, if_neg h, lettersGo_more (l.drop (Lib.decodeL l).2).length k _ (Nat.le_refl _) (by rw [List.length_drop]; omega)]

theorem decode_any (s : List UInt8) (h0 : s ≠ []) (w : World) (hT : Tabs w) :
    Calls Tryd.prog 44 #[.string ⟨s.toArray⟩] w fun e w' => e = .returned (.tuple #[.int .i32 (Lib.decodeL s).1, .int .i64 (Lib.decodeL s).2]) ∧ Below w.heap.size w w' := by
  refine (Tryd.utf8_DecodeRuneInString ⟨s.toArray⟩ w hT).mono ?_
  rintro e w' ⟨rfl, hb⟩
  refine ⟨?_, hb⟩
  have : Lib.decodeGo ⟨s.toArray⟩ = Lib.decodeL s := by
    unfold Lib.decodeGo Lib.decodeL
    rw [if_neg (by rw [Lib.size_eq]; simpa using h0)]
  rw [this]

/-- The row of numbers that a list of letters lies in. -/
abbrev runeCells (rs : List Int) : List Value := rs.map (Value.int .i32)

/-- What 'letters' hands back: a row of its own, or nil and false. -/
def LettersEnd (w : World) (a : Option (List Int)) (e : Ending) (w' : World) : Prop :=
  Below w.heap.size w w' ∧ match a with
    | some rs => ∃ v, e = .returned (.tuple #[v, .bool true]) ∧ w'.ownsRow w.heap.size 21 1 v rs.length (runeCells rs)
    | none => e = .returned (.tuple #[.slice none 0 0, .bool false])

set_option maxHeartbeats 1000000 in
theorem letters_any (s : List UInt8) (w : World) (hs : s.length ≤ 1099511627776) (hT : Tabs w) :
    Calls Tryd.prog 25 #[.string ⟨s.toArray⟩] w (LettersEnd w (letters s)) := by
  obtain ⟨ANS, hA⟩ : ∃ x, letters s = x := ⟨_, rfl⟩
  have HA := Lib.hid hA; rw [hA]; clear hA
  go_enter Tryd.func25, Tryd.ntmps25
  go_wp2
  go_loopw [0, 4, 5, 6] (fun s0 v _ _ wr => ∃ (t : List UInt8) (done : List Int), s0 = .string ⟨t.toArray⟩ ∧ Hid (letters s = (letters t).map (done ++ ·)) ∧ done.length + t.length ≤ s.length ∧ wr.ownsRow w.heap.size 21 1 v done.length (runeCells done) ∧ Below w.heap.size w wr)
    (fun s0 _ _ _ _ => match s0 with | .string b => b.size | _ => 0)
  case atStart => exact ⟨s, [], rfl, by simp [Hid], by simp, World.ownsRow_nil _ _ _ _, Below.refl _ _⟩
  case round =>
    obtain ⟨t, done, rfl, hl, hlen, hown, hb⟩ := hrel
    by_cases h0 : t = []
    · subst h0
      go_wp2
      go_ret2
      refine ⟨hb, ?_⟩
      have h1 := hl.out
      rw [letters_nil, HA.out] at h1
      subst h1
      exact ⟨_, rfl, by simpa using hown⟩
    · have hp : 0 < t.length := List.length_pos_iff.2 h0
      have hp' : (0 : Int) < (t.length : Int) := by omega
      have hw1 := Lib.decodeL_width t
      have hw2 := Lib.decodeL_le t h0
      obtain ⟨r, hr⟩ : ∃ r, (Lib.decodeL t).1 = r := ⟨_, rfl⟩
      obtain ⟨k, hk⟩ : ∃ k, (Lib.decodeL t).2 = k := ⟨_, rfl⟩
      have hd := decode_any t h0 wr (hT.below hb)
      rw [hr, hk] at hd
      rw [hk] at hw1 hw2
      have Hr := Lib.hid hr
      have Hk := Lib.hid hk
      have Hd := Lib.hid hd
      clear hr hk hd
      by_cases hbad : r = 65533 ∧ k < 2
      · obtain ⟨b1, b2⟩ := hbad
        have t1 : ((r : Int) == 65533) = true := by rw [beq_iff_eq]; omega
        have t2 : decide ((k : Int) < 2) = true := by rw [decide_eq_true_iff]; omega
        have HB : Hid (letters t = none) := letters_bad h0 ⟨by rw [Hr.out]; exact b1, by rw [Hk.out]; exact b2⟩
        clear b1 b2
        go_wp2_with (go_at_call 44; go_must (refine (Hd.out).mono ?_; rintro e w1 ⟨rfl, hb1⟩))
        go_ret2
        have h1 := hl.out
        rw [HB.out, HA.out] at h1
        subst h1
        exact ⟨step hb hb1 hb.size, rfl⟩
      · have HN : Hid (letters t = (letters (t.drop k)).map ((r : Int) :: ·)) := by
          have := letters_cons h0 (by rw [Hr.out, Hk.out]; exact hbad)
          rw [Hr.out, Hk.out] at this; exact this
        have hbz : (done.length + 1) * 4 ≤ 140737488355328 := by omega
        have hbn : done.length + 1 ≤ 4611686018427387904 := by omega
        have hq : ((r : Int) == 65533) = false ∨ (((r : Int) == 65533) = true ∧ decide ((k : Int) < 2) = false) := by
          by_cases h5 : r = 65533
          · refine .inr ⟨by rw [beq_iff_eq]; omega, ?_⟩
            rw [decide_eq_false_iff_not]; intro h; exact hbad ⟨h5, by omega⟩
          · refine .inl ?_
            rw [beq_eq_false_iff_ne]; omega
        have hwr : w.heap.size ≤ wr.heap.size := hb.size
        clear hbad
        rcases hq with t1 | ⟨t1, t2⟩
        all_goals
          go_wp2_with (first
            | (go_at_call 44; go_must (refine (Hd.out).mono ?_; rintro e w1 ⟨rfl, hb1⟩))
            | (at_builtin; go_must (refine wpList_app1 rt_runes w1 (.int .i32 r) rfl (.tmp 21) (.tmp 23) rfl w.heap.size u4 done.length (runeCells done) rfl (own_keep hown hb1 (Nat.le_refl _)) rfl rfl hbz hbn (Nat.le_trans hwr hb1.size) ?_; intro v2 w2 hown2 _ _ hb2)))
          go_roundw
          case rel =>
            refine ⟨t.drop k, done ++ [(r : Int)], rfl, ?_, by rw [List.length_append, List.length_drop, List.length_singleton]; omega, by simpa using hown2, (step hb hb1 hb.size).trans hb2⟩
            show letters s = _
            rw [hl.out, HN.out]
            cases letters (t.drop k) <;> simp
          case measure => simp [Lib.size_eq]; omega
end Go.Proofs.YtmklodgcbldndaaDoor
namespace Go.Proofs.YtmklodgcbldndaaDoor
open Go.RowKit Go.Proofs

/-- A value as the walk has it. -/
abbrev mkV (s n : Int) (t : List UInt8) : Value := .agg #[.int .i64 s, .int .i64 n, .string ⟨t.toArray⟩]

theorem validGo_letters : ∀ (n : Nat) (l : List UInt8), l.length ≤ n → Lib.validGoD n l = (lettersGo n l).isSome := by
  intro n
  induction n with
  | zero => intro l _; rfl
  | succ n ih =>
    intro l h
    unfold Lib.validGoD lettersGo
    by_cases he : l = []
    · simp [he]
    · have hw := Lib.decodeL_width l
      rw [if_neg he, if_neg he]
      by_cases hb : (Lib.decodeL l).1 = 65533 ∧ (Lib.decodeL l).2 = 1
      · rw [if_pos hb, if_pos ⟨hb.1, by omega⟩]; rfl
      · rw [if_neg hb, if_neg (fun h => hb ⟨h.1, by omega⟩), ih _ (by rw [List.length_drop]; omega)]
        simp
theorem valid_letters (l : List UInt8) : Lib.validD l = (letters l).isSome := validGo_letters _ _ (Nat.le_refl _)

set_option maxHeartbeats 400000 in
theorem refValue_any (s n : Int) (w : World) (t : List UInt8) (hs : t.length ≤ 9223372036854775807) (hT : Tabs w) :
    Calls Tryd.prog 13 #[mkV s n t] w fun e w' => e = .returned (.int .i64 (vchk s n t)) ∧ Below w.heap.size w w' := by
  by_cases h3 : s = 3 ∧ n = 0
  · obtain ⟨rfl, rfl⟩ := h3
    by_cases hl : 100 < t.length
    · have hl' : (100 : Int) < (t.length : Int) := by omega
      go_enter Tryd.func13, Tryd.ntmps13
      go_wp2
      go_ret
      exact ⟨by simp [vchk, hl], by go_grown⟩
    · have hl' : ¬ (100 : Int) < (t.length : Int) := by omega
      obtain ⟨o, ho⟩ : ∃ o, letters t = o := ⟨_, rfl⟩
      have hv := valid_letters t
      have hc : vchk 3 0 t = if o.isSome = true then 0 else 1 := by simp [vchk, hl, hv, ho]
      have HC := Lib.hid hc
      have hL := letters_any t (w.alloc (.cells #[.int .i64 3, .int .i64 0, .string ⟨t.toArray⟩] 23)) (by omega) (hT.below (by go_grown))
      rw [ho] at hL
      have HL := Lib.hid hL
      clear hL ho hv hc
      cases o with
      | none =>
        go_enter Tryd.func13, Tryd.ntmps13
        go_wp2_with (go_at_call 25; go_must (refine (HL.out).mono ?_; rintro e w1 ⟨hb, rfl⟩))
        go_ret
        exact ⟨by rw [HC.out]; rfl, step (by go_grown) hb (by simp)⟩
      | some rs =>
        go_enter Tryd.func13, Tryd.ntmps13
        go_wp2_with (go_at_call 25; go_must (refine (HL.out).mono ?_; rintro e w1 ⟨hb, v, rfl, hown⟩))
        go_ret
        exact ⟨by rw [HC.out]; rfl, step (by go_grown) hb (by simp)⟩
  · have hc : ¬ (s = 3 ∧ n = 0) := h3
    go_enter Tryd.func13, Tryd.ntmps13
    go_wp2_with fail
    all_goals (go_ret; refine ⟨?_, by go_grown⟩)
    all_goals (first | (simp [vchk, *]; done) | (simp_all [vchk]; done))

/-- Are two values the same, part by part? -/
def eqV (s n : Int) (t : List UInt8) (s' n' : Int) (t' : List UInt8) : Bool := decide (s = s' ∧ n = n' ∧ t = t')
theorem run_eqV (w : World) (s n : Int) (t : List UInt8) (s' n' : Int) (t' : List UInt8) :
    (binOp .eql 23 (mkV s n t) (mkV s' n' t')).run Tryd.prog w = .ok (.bool (eqV s n t s' n' t')) w := by
  have e : eqV s n t s' n' t' = (s == s' && (n == n' && t == t')) := by
    unfold eqV; rw [Bool.eq_iff_iff]; simp
  rw [e]
  go_simp
  by_cases h1 : s = s' <;> by_cases h2 : n = n' <;> by_cases h3 : t = t' <;> simp [h1, h2, h3]

/-- The order of two numbers, of two texts: -1, 0 or 1. -/
def cmpS (a b : List UInt8) : Int := if Op.bytesLess a b = true then -1 else if a = b then 0 else 1
end Go.Proofs.YtmklodgcbldndaaDoor
