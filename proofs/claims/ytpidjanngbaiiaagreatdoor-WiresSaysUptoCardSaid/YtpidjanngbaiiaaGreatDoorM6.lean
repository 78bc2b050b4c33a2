/-
  types.check of a Rec.
  types.check and types.Check, whole.
-/
import Derived.Test.YtpidjanngbaiiaaGreatDoorM5
namespace Go.Proofs.YtpidjanngbaiiaaGreatDoor
open Go.RowKit Go.Proofs
set_option maxRecDepth 100000
theorem bottom_kid {u u' : Ty} (h8 : u.kind = 8) (hk : u.kids = [u']) : (bottom u).kind = (bottom u').kind := by
 obtain ⟨k, s, n, ls, ks⟩ := u
 simp only [Ty.kind, Ty.kids] at h8 hk
 subst h8 hk
 rfl
theorem bottom_self {u : Ty} (h : ¬ (u.kind = 8 ∧ u.kids.length = 1)) : (bottom u).kind = u.kind := by
 obtain ⟨k, s, n, ls, ks⟩ := u
 simp only [Ty.kind, Ty.kids] at h ⊢
 unfold bottom
 rw [if_neg h]

set_option maxHeartbeats 2000000 in
theorem check_r7 (m : Nat) (ih : ∀ (t : Ty) (v bv : Value) (bound : List Str) (p : Nat) (left : Int) (w : World), parts t ≤ m → TyD (· ≠ p) w v t → Fit t → StrsD (· ≠ p) w bv bound → (∀ s ∈ bound, s.length ≤ maxLen) → 0 ≤ left → (bound.length : Int) + left ≤ 60 → w.cell? ⟨p, 0, none⟩ = some (.int .i64 left) → w.frozen? ⟨p, 0, none⟩ = false → CheckSays t v bv bound p left w)
  (t : Ty) (v bv : Value) (bound : List Str) (p : Nat) (left : Int) (w : World) (hm : parts t ≤ m + 1) (hv : TyD (· ≠ p) w v t) (hf : Fit t) (hbv : StrsD (· ≠ p) w bv bound) (hbl : ∀ s ∈ bound, s.length ≤ maxLen) (hl0 : 0 ≤ left) (hl : (bound.length : Int) + left ≤ 60) (hc : w.cell? ⟨p, 0, none⟩ = some (.int .i64 left)) (hfr : w.frozen? ⟨p, 0, none⟩ = false)
  (c : Ty) (hkc : t.kids = [c]) (hans : chk t bound left = (7, left - 1)) (hpos : 1 ≤ left) (hsh : shapeOk t.kind t.sort t.name t.labels t.kids.length = true) (h9 : (t.kind == 9) = false) (h8 : (t.kind == 8) = true) (hq : (bottom c).kind = 9) :
  CheckSays t v bv bound p left w := by
 unfold CheckSays
 rw [hans]
 clear hans
 have HT := Lib.hid hv
 have HB := Lib.hid hbv
 obtain ⟨lv, kv, rfl, h1, h2⟩ := hv
 have HK := Lib.hid h2
 obtain ⟨A0, p0, rfl, -, -⟩ := h1
 obtain ⟨A, cap, rfl, -, -⟩ := h2
 have HF := Lib.hid hf
 have HBL := Lib.hid hbl
 have HC := Lib.hid hc
 have hp := cell_lt hc
 obtain ⟨ks, hks⟩ : ∃ x, t.kids = x := ⟨_, rfl⟩
 have hkc' : ks[0]? = some c := by rw [← hks, hkc]; rfl
 have hL1 : ks.length = 1 := by rw [← hks, hkc]; rfl
 have HKC := Lib.hid (hks.symm.trans hkc)
 clear hkc
 have HFK : Hid (∀ c ∈ ks, Fit c) := by have := HF.out.parts.2.2.2.2; rw [hks] at this; exact this
 have HP : Hid (1 + partss ks ≤ m + 1) := by cases t; subst hks; exact hm
 have hkl : ks.length ≤ maxLen := by rw [← hks]; exact hf.parts.2.2.2.1
 unfold maxLen at hkl
 have HKS := Lib.hid hks
 rw [hks] at HK hsh ⊢
 have HL := Lib.hid hL1
 rw [hL1] at HK hkl hsh ⊢
 clear hks hL1
 go_enter Tryz.func83, Tryz.ntmps83
 go_wp2_with fail
 obtain ⟨W, hW⟩ : ∃ W, (w.setCell ⟨p, 0, none⟩ (.int .i64 (left - 1))).alloc (.cells #[.int .i64 t.kind, .int .i64 t.sort, .string ⟨t.name.toArray⟩, .slice A0 t.labels.length p0, .slice A 1 cap] 30) = W := ⟨_, rfl⟩
 have hl1 : Left W p (left - 1) := by subst hW; exact ((⟨hc, hfr⟩ : Left w p left).set (left - 1)).keep ((Below.refl _ _).alloc (Nat.le_refl _) _)
 have hgW : w.grownBy W (some p) := by subst hW; exact (grown_set w p _).trans (World.grownBy_alloc _ _ _)
 have hTB : VBox W w.heap.size t (.slice A0 t.labels.length p0) (.slice A 1 cap) := by subst hW; exact ⟨by simp [go_sem], by simp [go_sem], by simp [go_sem], by simp [go_sem], by simp [go_sem], fun j => by simp [go_sem], by simp⟩
 try rw [hW]
 clear hW
 refine (shaped_any t _ W (by have := (HT.out.keep (D' := (· ≠ p)) (same_p hgW) (fun b h _ => h)).is; rw [HKS.out, HL.out] at this; exact this) HF.out).mono ?_
 rw [HKS.out, HL.out, hsh]
 rintro e w1 ⟨rfl, hb1⟩
 have hl2 := hl1.keep hb1
 have hg1 := hgW.trans (grown_below hb1 _)
 have hTB1 := hTB.keep hb1 hTB.lt
 obtain ⟨t0, t1, t2, t3, t4, t5, t6⟩ := id hTB1
 clear hl1 hgW hTB hb1
 obtain ⟨-, -, b, off, A1, n1, p1, A2, n2, p2, rfl, hbp, c0, c1, c2, c3, c4, hl', hk'⟩ := kid_atD (HK.out.keep (D' := (· ≠ p)) (same_p hg1) (fun b h _ => h)) hkc'
 simp only [Nat.zero_mul, Nat.add_zero] at c0 c1 c2 c3 c4
 have HL' := Lib.hid hl'; have HK' := Lib.hid hk'; clear hl' hk'
 go_wp2_with fail
 obtain ⟨bb, hbb⟩ : ∃ x, w1.heap.size = x := ⟨_, rfl⟩
 obtain ⟨wa, hwa⟩ : ∃ y, w1.alloc (.cells #[.int .i64 c.kind, .int .i64 c.sort, .string ⟨c.name.toArray⟩, .slice A1 n1 p1, .slice A2 n2 p2] 30) = y := ⟨_, rfl⟩
 have hba : Below w1.heap.size w1 wa := by subst hwa; exact (Below.refl _ _).alloc (Nat.le_refl _) _
 have hsa : wa.heap.size = bb + 1 := by subst hwa; simp [hbb]
 have hla := hl2.keep hba
 have hga := hg1.trans (grown_below hba _)
 have hpb : p ≠ bb := by have := hl2.lt; omega
 have hwb : w.heap.size < bb := by have := hTB1.lt; omega
 have hkb : VBox wa bb c (.slice A1 n1 p1) (.slice A2 n2 p2) := by subst hwa hbb; exact ⟨by simp [go_sem], by simp [go_sem], by simp [go_sem], by simp [go_sem], by simp [go_sem], fun j => by simp [go_sem], by simp⟩
 have hTBa := hTB1.keep hba hTB1.lt
 have hD : ∀ b, b ≠ p → b < w1.heap.size → b ≠ p ∧ b ≠ bb := fun b h hl => ⟨h, by omega⟩
 have hka := (tyD_of HL'.out HK'.out).keep (D' := fun b => b ≠ p ∧ b ≠ bb) (Same.below hba) hD
 try rw [hwa]
 try rw [hbb]
 have hcf : Fit c := HFK.out c (mem_of_at hkc')
 have HKC' := Lib.hid hkc'
 clear HL' HK' hbp hwa hba hl2 hg1 hTB1 hsa hD t0 t1 t2 t3 t4 t5 t6 hkc' c0 c1 c2 c3 c4
 clear hbb
 clear w1
 obtain ⟨NB, hNB⟩ : ∃ x, (bottom c).kind = x := ⟨_, rfl⟩
 rw [hNB] at hq
 go_loopg [38] (parts c) (fun gk _ wr => ∃ (u : Ty) (B1 : Option Addr) (m1 q1 : Nat) (B2 : Option Addr) (m2 q2 : Nat), parts u ≤ gk ∧ (bottom u).kind = NB ∧ VBox wr bb u (.slice B1 m1 q1) (.slice B2 m2 q2) ∧ TyD (fun b => b ≠ p ∧ b ≠ bb) wr (.agg #[.int .i64 u.kind, .int .i64 u.sort, .string ⟨u.name.toArray⟩, .slice B1 m1 q1, .slice B2 m2 q2]) u ∧ Fit u ∧
  VBox wr w.heap.size t (.slice A0 t.labels.length p0) (.slice (some ⟨b, off, none⟩) 1 cap) ∧ Left wr p (left - 1) ∧ w.grownBy wr (some p))
 case atStart => exact ⟨c, A1, n1, p1, A2, n2, p2, Nat.le_refl _, hNB, hkb, hka, hcf, hTBa, hla, hga⟩
 case round =>
  clear hkb hka hcf hTBa hla hga
  obtain ⟨u, B1, m1, q1, B2, m2, q2, hgk, hub, hUB, hu, huf, hTB, hl2, hg1⟩ := hrel
  have HU := Lib.hid hu
  obtain ⟨_, _, e, hu1, hu2⟩ := hu
  injection e with e
  have e := congrArg Array.toList e
  simp only [List.cons.injEq, true_and, and_true] at e
  obtain ⟨rfl, rfl⟩ := e
  have hm2 : m2 = u.kids.length := by obtain ⟨_, _, e, _⟩ := hu2; injection e
  have hm3 : m2 ≤ 9223372036854775807 := by rw [hm2]; exact huf.parts.2.2.2.1
  by_cases h8u : u.kind = 8 ∧ m2 = 1
  ·obtain ⟨k8, hm1⟩ := h8u
   subst hm1
   obtain ⟨u', hu'⟩ : ∃ x, u.kids = [x] := by
    match hkk : u.kids, hm2 with
    | [x], _ => exact ⟨x, rfl⟩
   rw [hu'] at hu2
   obtain ⟨-, -, b', off', D1, r1, s1, D2, r2, s2, rfl, hbp', d0, d1, d2, d3, d4, hl', hk'⟩ := kid_atD (i := 0) (t := u') hu2 rfl
   simp only [Nat.zero_mul, Nat.add_zero] at d0 d1 d2 d3 d4
   have HL2 := Lib.hid hl'; have HK2 := Lib.hid hk'
   obtain ⟨u0, u1, u2, u3, u4, u5, u6⟩ := id hUB
   have hk8 : (u.kind == 8) = true := by simp [k8]
   have HM := Lib.hid hm2; have HU' := Lib.hid hu'; have HK8 := Lib.hid k8
   clear hl' hk' hu1 hu2 hm2 hu' k8
   go_wp2_with fail
   have hne : ¬ (bb ≠ p ∧ bb ≠ bb) := fun h => h.2 rfl
   have hUB' := hUB.fill u' (.slice D1 r1 s1) (.slice D2 r2 s2)
   have hu2 := (tyD_of HL2.out HK2.out).keep (D' := fun b => b ≠ p ∧ b ≠ bb) (Same.fill (b := bb) hne (.int .i64 u'.kind) (.int .i64 u'.sort) (.string ⟨u'.name.toArray⟩) (.slice D1 r1 s1) (.slice D2 r2 s2)) (fun b h _ => h)
   have hTB' := hTB.far5 (q := bb) (by omega) (.int .i64 u'.kind) (.int .i64 u'.sort) (.string ⟨u'.name.toArray⟩) (.slice D1 r1 s1) (.slice D2 r2 s2)
   have hl2' := hl2.far5 (q := bb) (by omega) (.int .i64 u'.kind) (.int .i64 u'.sort) (.string ⟨u'.name.toArray⟩) (.slice D1 r1 s1) (.slice D2 r2 s2)
   have hg1' := grown_fill hg1 (q := bb) (by omega) (.int .i64 u'.kind) (.int .i64 u'.sort) (.string ⟨u'.name.toArray⟩) (.slice D1 r1 s1) (.slice D2 r2 s2)
   generalize (((((wr.setCell ⟨bb, 0, none⟩ (.int .i64 u'.kind)).setCell ⟨bb, 1, none⟩ (.int .i64 u'.sort)).setCell ⟨bb, 2, none⟩ (.string ⟨u'.name.toArray⟩)).setCell ⟨bb, 3, none⟩ (.slice D1 r1 s1)).setCell ⟨bb, 4, none⟩ (.slice D2 r2 s2)) = w4 at hUB' hu2 hTB' hl2' hg1' ⊢
   have hin : u' ∈ u.kids := by rw [HU'.out]; simp
   have hpu : parts u' < gk := by
    have h1 := parts_at hin
    have h2 : parts u = 1 + partss u.kids := by cases u; rfl
    omega
   go_roundg (parts u')
   case measure => exact hpu
   case rel => exact ⟨u', D1, r1, s1, D2, r2, s2, Nat.le_refl _, (bottom_kid HK8.out HU'.out).symm.trans hub, hUB', hu2, huf.parts.2.2.2.2 u' hin, hTB', hl2', hg1'⟩
  ·have hun : u.kind = NB := by rw [← hub, bottom_self (by rw [← hm2]; exact h8u)]
   obtain ⟨u0, u1, u2, u3, u4, u5, u6⟩ := id hUB
   have HM := Lib.hid hm2
   clear hub hgk huf hu1 hu2 hm2 hUB HU
   have hk9 : (u.kind == 9) = true := by rw [hun]; simp [hq]
   have hk8 : (u.kind == 8) = false := by rw [hun]; simp [hq]
   clear h8u hun
   go_wp2_with fail
   go_ret
   exact ⟨rfl, hg1, hl2.c, hl2.f⟩
set_option maxHeartbeats 2000000 in
theorem check_r (m : Nat) (ih : ∀ (t : Ty) (v bv : Value) (bound : List Str) (p : Nat) (left : Int) (w : World), parts t ≤ m → TyD (· ≠ p) w v t → Fit t → StrsD (· ≠ p) w bv bound → (∀ s ∈ bound, s.length ≤ maxLen) → 0 ≤ left → (bound.length : Int) + left ≤ 60 → w.cell? ⟨p, 0, none⟩ = some (.int .i64 left) → w.frozen? ⟨p, 0, none⟩ = false → CheckSays t v bv bound p left w)
  (t : Ty) (v bv : Value) (bound : List Str) (p : Nat) (left : Int) (w : World) (hm : parts t ≤ m + 1) (hv : TyD (· ≠ p) w v t) (hf : Fit t) (hbv : StrsD (· ≠ p) w bv bound) (hbl : ∀ s ∈ bound, s.length ≤ maxLen) (hl0 : 0 ≤ left) (hl : (bound.length : Int) + left ≤ 60) (hc : w.cell? ⟨p, 0, none⟩ = some (.int .i64 left)) (hfr : w.frozen? ⟨p, 0, none⟩ = false)
  (c : Ty) (hkc : t.kids = [c]) (bdx : List Str) (hbd : bdx = bound ++ [t.name]) (hans : chk t bound left = chkKids t.kids bdx (left - 1)) (hpos : 1 ≤ left) (hsh : shapeOk t.kind t.sort t.name t.labels t.kids.length = true) (h9 : (t.kind == 9) = false) (h8 : (t.kind == 8) = true) (hq : (bottom c).kind ≠ 9) :
  CheckSays t v bv bound p left w := by
 unfold CheckSays
 rw [hans]
 clear hans
 have HT := Lib.hid hv
 have HB := Lib.hid hbv
 obtain ⟨lv, kv, rfl, h1, h2⟩ := hv
 have HK := Lib.hid h2
 obtain ⟨A0, p0, rfl, -, -⟩ := h1
 obtain ⟨A, cap, rfl, -, -⟩ := h2
 have HF := Lib.hid hf
 have HBL := Lib.hid hbl
 have HC := Lib.hid hc
 have hp := cell_lt hc
 obtain ⟨ks, hks⟩ : ∃ x, t.kids = x := ⟨_, rfl⟩
 have hkc' : ks[0]? = some c := by rw [← hks, hkc]; rfl
 have hL1 : ks.length = 1 := by rw [← hks, hkc]; rfl
 have HKC := Lib.hid (hks.symm.trans hkc)
 have HBD := Lib.hid hbd
 clear hbd
 clear hkc
 have HFK : Hid (∀ c ∈ ks, Fit c) := by have := HF.out.parts.2.2.2.2; rw [hks] at this; exact this
 have HP : Hid (1 + partss ks ≤ m + 1) := by cases t; subst hks; exact hm
 have hkl : ks.length ≤ maxLen := by rw [← hks]; exact hf.parts.2.2.2.1
 unfold maxLen at hkl
 have HKS := Lib.hid hks
 rw [hks] at HK hsh ⊢
 have HL := Lib.hid hL1
 rw [hL1] at HK hkl hsh ⊢
 clear hks hL1
 go_enter Tryz.func83, Tryz.ntmps83
 go_wp2_with fail
 obtain ⟨W, hW⟩ : ∃ W, (w.setCell ⟨p, 0, none⟩ (.int .i64 (left - 1))).alloc (.cells #[.int .i64 t.kind, .int .i64 t.sort, .string ⟨t.name.toArray⟩, .slice A0 t.labels.length p0, .slice A 1 cap] 30) = W := ⟨_, rfl⟩
 have hl1 : Left W p (left - 1) := by subst hW; exact ((⟨hc, hfr⟩ : Left w p left).set (left - 1)).keep ((Below.refl _ _).alloc (Nat.le_refl _) _)
 have hgW : w.grownBy W (some p) := by subst hW; exact (grown_set w p _).trans (World.grownBy_alloc _ _ _)
 have hTB : VBox W w.heap.size t (.slice A0 t.labels.length p0) (.slice A 1 cap) := by subst hW; exact ⟨by simp [go_sem], by simp [go_sem], by simp [go_sem], by simp [go_sem], by simp [go_sem], fun j => by simp [go_sem], by simp⟩
 try rw [hW]
 clear hW
 refine (shaped_any t _ W (by have := (HT.out.keep (D' := (· ≠ p)) (same_p hgW) (fun b h _ => h)).is; rw [HKS.out, HL.out] at this; exact this) HF.out).mono ?_
 rw [HKS.out, HL.out, hsh]
 rintro e w1 ⟨rfl, hb1⟩
 have hl2 := hl1.keep hb1
 have hg1 := hgW.trans (grown_below hb1 _)
 have hTB1 := hTB.keep hb1 hTB.lt
 obtain ⟨t0, t1, t2, t3, t4, t5, t6⟩ := id hTB1
 clear hl1 hgW hTB hb1
 obtain ⟨-, -, b, off, A1, n1, p1, A2, n2, p2, rfl, hbp, c0, c1, c2, c3, c4, hl', hk'⟩ := kid_atD (HK.out.keep (D' := (· ≠ p)) (same_p hg1) (fun b h _ => h)) hkc'
 simp only [Nat.zero_mul, Nat.add_zero] at c0 c1 c2 c3 c4
 have HL' := Lib.hid hl'; have HK' := Lib.hid hk'; clear hl' hk'
 go_wp2_with fail
 obtain ⟨bb, hbb⟩ : ∃ x, w1.heap.size = x := ⟨_, rfl⟩
 obtain ⟨wa, hwa⟩ : ∃ y, w1.alloc (.cells #[.int .i64 c.kind, .int .i64 c.sort, .string ⟨c.name.toArray⟩, .slice A1 n1 p1, .slice A2 n2 p2] 30) = y := ⟨_, rfl⟩
 have hba : Below w1.heap.size w1 wa := by subst hwa; exact (Below.refl _ _).alloc (Nat.le_refl _) _
 have hsa : wa.heap.size = bb + 1 := by subst hwa; simp [hbb]
 have hla := hl2.keep hba
 have hga := hg1.trans (grown_below hba _)
 have hpb : p ≠ bb := by have := hl2.lt; omega
 have hwb : w.heap.size < bb := by have := hTB1.lt; omega
 have hkb : VBox wa bb c (.slice A1 n1 p1) (.slice A2 n2 p2) := by subst hwa hbb; exact ⟨by simp [go_sem], by simp [go_sem], by simp [go_sem], by simp [go_sem], by simp [go_sem], fun j => by simp [go_sem], by simp⟩
 have hTBa := hTB1.keep hba hTB1.lt
 have hD : ∀ b, b ≠ p → b < w1.heap.size → b ≠ p ∧ b ≠ bb := fun b h hl => ⟨h, by omega⟩
 have hka := (tyD_of HL'.out HK'.out).keep (D' := fun b => b ≠ p ∧ b ≠ bb) (Same.below hba) hD
 try rw [hwa]
 try rw [hbb]
 have hcf : Fit c := HFK.out c (mem_of_at hkc')
 have HKC' := Lib.hid hkc'
 clear HL' HK' hbp hwa hba hl2 hg1 hTB1 hsa hD t0 t1 t2 t3 t4 t5 t6 hkc' c0 c1 c2 c3 c4
 clear hbb
 clear w1
 obtain ⟨NB, hNB⟩ : ∃ x, (bottom c).kind = x := ⟨_, rfl⟩
 rw [hNB] at hq
 go_loopg [38] (parts c) (fun gk _ wr => ∃ (u : Ty) (B1 : Option Addr) (m1 q1 : Nat) (B2 : Option Addr) (m2 q2 : Nat), parts u ≤ gk ∧ (bottom u).kind = NB ∧ VBox wr bb u (.slice B1 m1 q1) (.slice B2 m2 q2) ∧ TyD (fun b => b ≠ p ∧ b ≠ bb) wr (.agg #[.int .i64 u.kind, .int .i64 u.sort, .string ⟨u.name.toArray⟩, .slice B1 m1 q1, .slice B2 m2 q2]) u ∧ Fit u ∧
  VBox wr w.heap.size t (.slice A0 t.labels.length p0) (.slice (some ⟨b, off, none⟩) 1 cap) ∧ Left wr p (left - 1) ∧ w.grownBy wr (some p))
 case atStart => exact ⟨c, A1, n1, p1, A2, n2, p2, Nat.le_refl _, hNB, hkb, hka, hcf, hTBa, hla, hga⟩
 case round =>
  clear hkb hka hcf hTBa hla hga
  obtain ⟨u, B1, m1, q1, B2, m2, q2, hgk, hub, hUB, hu, huf, hTB, hl2, hg1⟩ := hrel
  have HU := Lib.hid hu
  obtain ⟨_, _, e, hu1, hu2⟩ := hu
  injection e with e
  have e := congrArg Array.toList e
  simp only [List.cons.injEq, true_and, and_true] at e
  obtain ⟨rfl, rfl⟩ := e
  have hm2 : m2 = u.kids.length := by obtain ⟨_, _, e, _⟩ := hu2; injection e
  have hm3 : m2 ≤ 9223372036854775807 := by rw [hm2]; exact huf.parts.2.2.2.1
  by_cases h8u : u.kind = 8 ∧ m2 = 1
  ·obtain ⟨k8, hm1⟩ := h8u
   subst hm1
   obtain ⟨u', hu'⟩ : ∃ x, u.kids = [x] := by
    match hkk : u.kids, hm2 with
    | [x], _ => exact ⟨x, rfl⟩
   rw [hu'] at hu2
   obtain ⟨-, -, b', off', D1, r1, s1, D2, r2, s2, rfl, hbp', d0, d1, d2, d3, d4, hl', hk'⟩ := kid_atD (i := 0) (t := u') hu2 rfl
   simp only [Nat.zero_mul, Nat.add_zero] at d0 d1 d2 d3 d4
   have HL2 := Lib.hid hl'; have HK2 := Lib.hid hk'
   obtain ⟨u0, u1, u2, u3, u4, u5, u6⟩ := id hUB
   have hk8 : (u.kind == 8) = true := by simp [k8]
   have HM := Lib.hid hm2; have HU' := Lib.hid hu'; have HK8 := Lib.hid k8
   clear hl' hk' hu1 hu2 hm2 hu' k8
   go_wp2_with fail
   have hne : ¬ (bb ≠ p ∧ bb ≠ bb) := fun h => h.2 rfl
   have hUB' := hUB.fill u' (.slice D1 r1 s1) (.slice D2 r2 s2)
   have hu2 := (tyD_of HL2.out HK2.out).keep (D' := fun b => b ≠ p ∧ b ≠ bb) (Same.fill (b := bb) hne (.int .i64 u'.kind) (.int .i64 u'.sort) (.string ⟨u'.name.toArray⟩) (.slice D1 r1 s1) (.slice D2 r2 s2)) (fun b h _ => h)
   have hTB' := hTB.far5 (q := bb) (by omega) (.int .i64 u'.kind) (.int .i64 u'.sort) (.string ⟨u'.name.toArray⟩) (.slice D1 r1 s1) (.slice D2 r2 s2)
   have hl2' := hl2.far5 (q := bb) (by omega) (.int .i64 u'.kind) (.int .i64 u'.sort) (.string ⟨u'.name.toArray⟩) (.slice D1 r1 s1) (.slice D2 r2 s2)
   have hg1' := grown_fill hg1 (q := bb) (by omega) (.int .i64 u'.kind) (.int .i64 u'.sort) (.string ⟨u'.name.toArray⟩) (.slice D1 r1 s1) (.slice D2 r2 s2)
   generalize (((((wr.setCell ⟨bb, 0, none⟩ (.int .i64 u'.kind)).setCell ⟨bb, 1, none⟩ (.int .i64 u'.sort)).setCell ⟨bb, 2, none⟩ (.string ⟨u'.name.toArray⟩)).setCell ⟨bb, 3, none⟩ (.slice D1 r1 s1)).setCell ⟨bb, 4, none⟩ (.slice D2 r2 s2)) = w4 at hUB' hu2 hTB' hl2' hg1' ⊢
   have hin : u' ∈ u.kids := by rw [HU'.out]; simp
   have hpu : parts u' < gk := by
    have h1 := parts_at hin
    have h2 : parts u = 1 + partss u.kids := by cases u; rfl
    omega
   go_roundg (parts u')
   case measure => exact hpu
   case rel => exact ⟨u', D1, r1, s1, D2, r2, s2, Nat.le_refl _, (bottom_kid HK8.out HU'.out).symm.trans hub, hUB', hu2, huf.parts.2.2.2.2 u' hin, hTB', hl2', hg1'⟩
  ·have hun : u.kind = NB := by rw [← hub, bottom_self (by rw [← hm2]; exact h8u)]
   obtain ⟨u0, u1, u2, u3, u4, u5, u6⟩ := id hUB
   have HM := Lib.hid hm2
   clear hub hgk huf hu1 hu2 hm2 hUB HU
   by_cases k8 : u.kind = 8
   ·have hm1 : ((m2 : Int) == 1) = false := by simp; omega
    have hk8 : (u.kind == 8) = true := by simp [k8]
    have hk9 : (u.kind == 9) = false := by simp [k8]
    clear h8u hun k8
    obtain ⟨t0, t1, t2, t3, t4, t5, t6⟩ := id hTB
    have hpw : p < wr.heap.size := hl2.lt
    have hS : ∀ w' : World, Below wr.heap.size wr w' → (fun w' : World => w'.cell? ⟨w.heap.size, 2, none⟩ = some (.string ⟨t.name.toArray⟩)) w' := fun w' h => (h.cell (p := ⟨w.heap.size, 2, none⟩) t6).trans t2
    have HSd := Lib.hid (hS wr.drew (Below.refl _ _).drew)
    have HSB := Lib.hid hS; clear hS
    go_wp2_with fail
    refine wp_region_T 6 (fun w' : World => w'.cell? ⟨w.heap.size, 2, none⟩ = some (.string ⟨t.name.toArray⟩)) (by kernel_rfl) ?_
    refine zT 0 ?_ rfl (Or.inl ⟨by rfl, ?_⟩) HSd.out ?_
    rotate_left
    ·(intro wq hSw; have q0 : wq.cell? ⟨w.heap.size, 2, none⟩ = some (.string ⟨t.name.toArray⟩) := hSw; go_simp; all_goals (with_reducible rfl))
    try simp only [zA, zB, zC, Act.put, zD, zE, zF]
    refine zT 2 ?_ rfl (Or.inl ⟨by rfl, ?_⟩) HSd.out ?_
    rotate_left
    ·(intro wq hSw; have q0 : wq.cell? ⟨w.heap.size, 2, none⟩ = some (.string ⟨t.name.toArray⟩) := hSw; go_simp; all_goals (with_reducible rfl))
    try simp only [zA, zB, zC, Act.put, zD, zE, zF]
    refine zT 3 ?_ rfl (Or.inl ⟨by rfl, ?_⟩) HSd.out ?_
    rotate_left
    ·(intro wq hSw; have q0 : wq.cell? ⟨w.heap.size, 2, none⟩ = some (.string ⟨t.name.toArray⟩) := hSw; go_simp; all_goals (with_reducible rfl))
    try simp only [zA, zB, zC, Act.put, zD, zE, zF]
    refine wpT_two (i := 1) (j := 4) rfl rfl (by kernel_rfl) (fun K hK => ?_) (fun K hK => ?_)
    ·go_simp
     refine (clone_own (HB.out.keep (D' := (· ≠ p)) (w' := wr.drew) (same_p (hg1.trans (grown_below (Below.refl _ _).drew _))) (fun b h _ => h)) (by omega)).mono ?_
     rintro e w1 ⟨v', rfl, hown, hb1⟩
     have hb1' : Below wr.heap.size wr w1 := chain ((Below.refl _ _).drew) hb1
     have hs1 := hb1'.size
     have hown' : w1.ownsRow wr.heap.size 9 1 v' bound.length (bound.map fun s => .string ⟨s.toArray⟩) := hown
     refine hK.out _ _ (fun _ => HSB.out w1 hb1') ?_
     clear hK K
     try simp only [zA, zB, zC, Act.put, zD, zE, zF]
     refine zO 4 fun K hK => ?_
     go_simp
     have hbA := hb1'.alloc hs1 (.cells #[.string ⟨t.name.toArray⟩] 9)
     refine hK.out _ _ (fun _ => HSB.out _ hbA) ?_
     clear hK K
     try simp only [zA, zB, zC, Act.put, zD, zE, zF]
     refine zO 5 fun K hK => ?_
     refine step_app rt_strs rfl (.tmp 55) (.tmp 58) rfl wr.heap.size v' bound.length (bound.map fun s => .string ⟨s.toArray⟩) rfl (hown'.alloc _) ⟨w1.heap.size, 0, none⟩ 1 1 [.string ⟨t.name.toArray⟩] rfl rfl (cell_one_new _ _ _) (by simp [Value.oneCell']) (by unfold maxLen; omega) (by omega) (by rw [World.size_alloc]; omega) (fun v'' w3 k1 k2 k3 k4 => ?_)
     have hb3 := hbA.trans k4
     clear hown hown'
     refine hK.out _ _ (fun _ => HSB.out _ hb3) ?_
     clear hK K
     try simp only [zA, zB, zC, Act.put, zD, zE, zF]
     refine zO 6 fun K hK => ?_
     go_simp
     refine hK.out _ _ (fun h => absurd h (by decide)) ?_
     clear hK K
     try simp only [zA, zB, zC, Act.put, zD, zE, zF]
     refine wpT_done (by kernel_rfl) ?_
     have hsx : StrsD (· ≠ p) w3 v'' (bound ++ [t.name]) := own_strs k1 (fun q hq => by omega)
     have hlx := hl2.keep hb3
     have hgx := hg1.trans (grown_below hb3 _)
     have hTBx := hTB.keep hb3 hTB.lt
     have HBLx : Hid (∀ s ∈ bound ++ [t.name], s.length ≤ maxLen) := by
      intro s hs
      rcases List.mem_append.1 hs with h | h
      ·exact HBL.out s h
      ·rw [List.mem_singleton.1 h]; exact HF.out.parts.1
     have hlen : ((bound ++ [t.name]).length : Int) + left ≤ 61 := by simp; omega
     clear hl2 hg1 hTB hb1 hb3 k1 k2 k3 k4 HSB HSd t0 t1 t2 t3 t4 t5 t6 u0 u1 u2 u3 u4 u5 u6
     have hl2 := hlx; have hg1 := hgx; have HBV := hsx
     clear hlx hgx hsx
     rw [← HBD.out] at HBV HBLx hlen
     obtain ⟨bvx, hbvx⟩ : ∃ x, v'' = x := ⟨_, rfl⟩
     rw [hbvx] at HBV
     rw [hbvx]
     clear hbvx
     obtain ⟨t0, t1, t2, t3, t4, t5, t6⟩ := id hTBx
     go_wp2_with fail
     go_loopw [63] (fun i wr => ∃ (k : Nat) (lk : Int), k ≤ 1 ∧ i = .int .i64 k ∧ 0 ≤ lk ∧ lk ≤ left - 1 ∧ Left wr p lk ∧ w.grownBy wr (some p) ∧ StrsD (· ≠ p) wr bvx bdx ∧ Hid (chkKids ks bdx (left - 1) = chkKids (ks.drop k) bdx lk)) (fun i _ => 1 - (intOf i).toNat)
     case atStart => exact ⟨0, left - 1, by omega, rfl, by omega, by omega, hl2, hg1, HBV, rfl⟩
     case round =>
      clear hl2 hg1 HBV hTBx t0 t1 t2 t3 t4 t5 t6
      obtain ⟨k, lk, hk, rfl, hlk0, hlk1, hl2, hg1, HBV, hs⟩ := hrel
      by_cases hlt : k < 1
      ·obtain ⟨c, hc'⟩ : ∃ x, ks[k]? = some x := ⟨_, List.getElem?_eq_getElem (by rw [HL.out]; exact hlt)⟩
       have HC' := Lib.hid hc'
       obtain ⟨-, -, b, off, A1, n1, p1, A2, n2, p2, eA, hbp, c0, c1, c2, c3, c4, hl', hk'⟩ := kid_atD (HK.out.keep (D' := (· ≠ p)) (same_p hg1) (fun b h _ => h)) hc'
       cases eA
       have HL' := Lib.hid hl'; have HK' := Lib.hid hk'; clear hl' hk' hc'
       have hcp : parts c ≤ m := by have h1 := parts_at (mem_of_at HC'.out); have h2 := HP.out; omega
       have hcf : Fit c := HFK.out c (mem_of_at HC'.out)
       obtain ⟨wa, hwa⟩ : ∃ y, wr.alloc (.cells #[.int .i64 c.kind, .int .i64 c.sort, .string ⟨c.name.toArray⟩, .slice A1 n1 p1, .slice A2 n2 p2] 30) = y := ⟨_, rfl⟩
       have hba : Below wr.heap.size wr wa := by subst hwa; exact (Below.refl _ _).alloc (Nat.le_refl _) _
       have hla := hl2.keep hba
       have hga := hg1.trans (grown_below hba _)
       have hkb : VBox wa wr.heap.size c (.slice A1 n1 p1) (.slice A2 n2 p2) := by subst hwa; exact ⟨by simp [go_sem], by simp [go_sem], by simp [go_sem], by simp [go_sem], by simp [go_sem], fun j => by simp [go_sem], by simp⟩
       obtain ⟨k0, k1, k2, k3, k4, k5, k6⟩ := id hkb
       obtain ⟨R, hR⟩ : ∃ x, chk c bdx lk = x := ⟨_, rfl⟩
       have HR := Lib.hid hR
       have hstep := hs.out
       rw [chkKids_drop HC'.out, hR] at hstep
       have hcall := ih c (.agg #[.int .i64 c.kind, .int .i64 c.sort, .string ⟨c.name.toArray⟩, .slice A1 n1 p1, .slice A2 n2 p2]) bvx bdx p lk wa hcp ((tyD_of HL'.out HK'.out).keep (Same.below hba) (fun b h _ => h)) hcf (HBV.keep (Same.below hba) (fun b h _ => h)) HBLx.out hlk0 (by omega) hla.c hla.f
       unfold CheckSays at hcall
       rw [hR] at hcall
       have HCALL := Lib.hid hcall
       clear hR hcall
       by_cases he : R.1 = 0
       ·have hp2 : 0 ≤ R.2 ∧ R.2 ≤ lk := by
         have h1 := chk_parts c bdx lk (by rw [HR.out]; exact he)
         rw [HR.out] at h1
         omega
        rw [if_neg (by simpa using he)] at hstep
        have HST := Lib.hid hstep
        have hE : (R.1 != 0) = false := by rw [bne_eq_false_iff_eq]; exact he
        clear hstep hs he
        go_wp2_with fail
        try rw [hwa]
        clear hwa
        refine HCALL.out.mono ?_
        rintro e w2 ⟨rfl, hg2, hc2, hf2⟩
        go_wp2_with fail
        go_roundw
        case rel => exact ⟨k + 1, R.2, by omega, by go_num, hp2.1, by omega, ⟨hc2, hf2⟩, hga.trans hg2, (HBV.keep (Same.below hba) (fun b h _ => h)).keep (same_p hg2) (fun b h _ => h), HST⟩
        case measure => simp [intOf]; omega
       ·rw [if_pos he] at hstep
        have HST := Lib.hid hstep
        have hE : (R.1 != 0) = true := by rw [bne_iff_ne]; exact he
        clear hstep hs he
        go_wp2_with fail
        try rw [hwa]
        clear hwa
        refine HCALL.out.mono ?_
        rintro e w2 ⟨rfl, hg2, hc2, hf2⟩
        go_wp2_with fail
        go_ret
        rw [HST.out]
        exact ⟨rfl, hga.trans hg2, hc2, hf2⟩
      ·have hend := hs.out
       rw [List.drop_of_length_le (by rw [HL.out]; omega)] at hend
       have HE := Lib.hid hend
       clear hend hs
       go_wp2_with fail
       go_ret
       rw [HE.out]
       exact ⟨rfl, hg1, hl2.c, hl2.f⟩
    ·go_simp
     have hbz : Below wr.heap.size wr (wr.alloc (.cells #[.string ⟨t.name.toArray⟩] 9)) := (Below.refl _ _).alloc (Nat.le_refl _) _
     refine hK.out _ _ (fun _ => HSB.out _ hbz.drew) ?_
     clear hK K
     try simp only [zA, zB, zC, Act.put, zD, zE, zF]
     refine zO 1 fun K hK => ?_
     go_simp
     refine (clone_own (HB.out.keep (D' := (· ≠ p)) (w' := (wr.alloc (.cells #[.string ⟨t.name.toArray⟩] 9)).drew) (same_p (hg1.trans (grown_below hbz.drew _))) (fun b h _ => h)) (by omega)).mono ?_
     rintro e w1 ⟨v', rfl, hown, hb1⟩
     have hb1' : Below wr.heap.size wr w1 := chain hbz.drew hb1
     have hs1 := hb1'.size
     have hown' : w1.ownsRow wr.heap.size 9 1 v' bound.length (bound.map fun s => .string ⟨s.toArray⟩) := own_mono hown (by show _ ≤ (wr.alloc _).heap.size; simp)
     have hnew : ∀ j u, ([.string ⟨t.name.toArray⟩] : List Value)[j]? = some u → w1.cell? ((⟨wr.heap.size, 0, none⟩ : Addr).add j) = some u := fun j u hj => by
      have h := cell_one_new wr (.string ⟨t.name.toArray⟩) 9 j u hj
      rw [Go.WideShapes.add_plain] at h ⊢
      exact cell_keep (w := (wr.alloc (.cells #[.string ⟨t.name.toArray⟩] 9)).drew) h hb1
     refine hK.out _ _ (fun _ => HSB.out w1 hb1') ?_
     clear hK K
     try simp only [zA, zB, zC, Act.put, zD, zE, zF]
     refine zO 5 fun K hK => ?_
     refine step_app rt_strs rfl (.tmp 55) (.tmp 58) rfl wr.heap.size v' bound.length (bound.map fun s => .string ⟨s.toArray⟩) rfl hown' ⟨wr.heap.size, 0, none⟩ 1 1 [.string ⟨t.name.toArray⟩] rfl rfl hnew (by simp [Value.oneCell']) (by unfold maxLen; omega) (by omega) (by skip; omega) (fun v'' w3 k1 k2 k3 k4 => ?_)
     have hb3 := hb1'.trans k4
     clear hown hown' hbz hnew
     refine hK.out _ _ (fun _ => HSB.out _ hb3) ?_
     clear hK K
     try simp only [zA, zB, zC, Act.put, zD, zE, zF]
     refine zO 6 fun K hK => ?_
     go_simp
     refine hK.out _ _ (fun h => absurd h (by decide)) ?_
     clear hK K
     try simp only [zA, zB, zC, Act.put, zD, zE, zF]
     refine wpT_done (by kernel_rfl) ?_
     have hsx : StrsD (· ≠ p) w3 v'' (bound ++ [t.name]) := own_strs k1 (fun q hq => by omega)
     have hlx := hl2.keep hb3
     have hgx := hg1.trans (grown_below hb3 _)
     have hTBx := hTB.keep hb3 hTB.lt
     have HBLx : Hid (∀ s ∈ bound ++ [t.name], s.length ≤ maxLen) := by
      intro s hs
      rcases List.mem_append.1 hs with h | h
      ·exact HBL.out s h
      ·rw [List.mem_singleton.1 h]; exact HF.out.parts.1
     have hlen : ((bound ++ [t.name]).length : Int) + left ≤ 61 := by simp; omega
     clear hl2 hg1 hTB hb1 hb3 k1 k2 k3 k4 HSB HSd t0 t1 t2 t3 t4 t5 t6 u0 u1 u2 u3 u4 u5 u6
     have hl2 := hlx; have hg1 := hgx; have HBV := hsx
     clear hlx hgx hsx
     rw [← HBD.out] at HBV HBLx hlen
     obtain ⟨bvx, hbvx⟩ : ∃ x, v'' = x := ⟨_, rfl⟩
     rw [hbvx] at HBV
     rw [hbvx]
     clear hbvx
     obtain ⟨t0, t1, t2, t3, t4, t5, t6⟩ := id hTBx
     go_wp2_with fail
     go_loopw [63] (fun i wr => ∃ (k : Nat) (lk : Int), k ≤ 1 ∧ i = .int .i64 k ∧ 0 ≤ lk ∧ lk ≤ left - 1 ∧ Left wr p lk ∧ w.grownBy wr (some p) ∧ StrsD (· ≠ p) wr bvx bdx ∧ Hid (chkKids ks bdx (left - 1) = chkKids (ks.drop k) bdx lk)) (fun i _ => 1 - (intOf i).toNat)
     case atStart => exact ⟨0, left - 1, by omega, rfl, by omega, by omega, hl2, hg1, HBV, rfl⟩
     case round =>
      clear hl2 hg1 HBV hTBx t0 t1 t2 t3 t4 t5 t6
      obtain ⟨k, lk, hk, rfl, hlk0, hlk1, hl2, hg1, HBV, hs⟩ := hrel
      by_cases hlt : k < 1
      ·obtain ⟨c, hc'⟩ : ∃ x, ks[k]? = some x := ⟨_, List.getElem?_eq_getElem (by rw [HL.out]; exact hlt)⟩
       have HC' := Lib.hid hc'
       obtain ⟨-, -, b, off, A1, n1, p1, A2, n2, p2, eA, hbp, c0, c1, c2, c3, c4, hl', hk'⟩ := kid_atD (HK.out.keep (D' := (· ≠ p)) (same_p hg1) (fun b h _ => h)) hc'
       cases eA
       have HL' := Lib.hid hl'; have HK' := Lib.hid hk'; clear hl' hk' hc'
       have hcp : parts c ≤ m := by have h1 := parts_at (mem_of_at HC'.out); have h2 := HP.out; omega
       have hcf : Fit c := HFK.out c (mem_of_at HC'.out)
       obtain ⟨wa, hwa⟩ : ∃ y, wr.alloc (.cells #[.int .i64 c.kind, .int .i64 c.sort, .string ⟨c.name.toArray⟩, .slice A1 n1 p1, .slice A2 n2 p2] 30) = y := ⟨_, rfl⟩
       have hba : Below wr.heap.size wr wa := by subst hwa; exact (Below.refl _ _).alloc (Nat.le_refl _) _
       have hla := hl2.keep hba
       have hga := hg1.trans (grown_below hba _)
       have hkb : VBox wa wr.heap.size c (.slice A1 n1 p1) (.slice A2 n2 p2) := by subst hwa; exact ⟨by simp [go_sem], by simp [go_sem], by simp [go_sem], by simp [go_sem], by simp [go_sem], fun j => by simp [go_sem], by simp⟩
       obtain ⟨k0, k1, k2, k3, k4, k5, k6⟩ := id hkb
       obtain ⟨R, hR⟩ : ∃ x, chk c bdx lk = x := ⟨_, rfl⟩
       have HR := Lib.hid hR
       have hstep := hs.out
       rw [chkKids_drop HC'.out, hR] at hstep
       have hcall := ih c (.agg #[.int .i64 c.kind, .int .i64 c.sort, .string ⟨c.name.toArray⟩, .slice A1 n1 p1, .slice A2 n2 p2]) bvx bdx p lk wa hcp ((tyD_of HL'.out HK'.out).keep (Same.below hba) (fun b h _ => h)) hcf (HBV.keep (Same.below hba) (fun b h _ => h)) HBLx.out hlk0 (by omega) hla.c hla.f
       unfold CheckSays at hcall
       rw [hR] at hcall
       have HCALL := Lib.hid hcall
       clear hR hcall
       by_cases he : R.1 = 0
       ·have hp2 : 0 ≤ R.2 ∧ R.2 ≤ lk := by
         have h1 := chk_parts c bdx lk (by rw [HR.out]; exact he)
         rw [HR.out] at h1
         omega
        rw [if_neg (by simpa using he)] at hstep
        have HST := Lib.hid hstep
        have hE : (R.1 != 0) = false := by rw [bne_eq_false_iff_eq]; exact he
        clear hstep hs he
        go_wp2_with fail
        try rw [hwa]
        clear hwa
        refine HCALL.out.mono ?_
        rintro e w2 ⟨rfl, hg2, hc2, hf2⟩
        go_wp2_with fail
        go_roundw
        case rel => exact ⟨k + 1, R.2, by omega, by go_num, hp2.1, by omega, ⟨hc2, hf2⟩, hga.trans hg2, (HBV.keep (Same.below hba) (fun b h _ => h)).keep (same_p hg2) (fun b h _ => h), HST⟩
        case measure => simp [intOf]; omega
       ·rw [if_pos he] at hstep
        have HST := Lib.hid hstep
        have hE : (R.1 != 0) = true := by rw [bne_iff_ne]; exact he
        clear hstep hs he
        go_wp2_with fail
        try rw [hwa]
        clear hwa
        refine HCALL.out.mono ?_
        rintro e w2 ⟨rfl, hg2, hc2, hf2⟩
        go_wp2_with fail
        go_ret
        rw [HST.out]
        exact ⟨rfl, hga.trans hg2, hc2, hf2⟩
      ·have hend := hs.out
       rw [List.drop_of_length_le (by rw [HL.out]; omega)] at hend
       have HE := Lib.hid hend
       clear hend hs
       go_wp2_with fail
       go_ret
       rw [HE.out]
       exact ⟨rfl, hg1, hl2.c, hl2.f⟩
   ·have hk8 : (u.kind == 8) = false := by simp [k8]
    have hk9 : (u.kind == 9) = false := by rw [hun]; simp [hq]
    clear h8u hun k8
    obtain ⟨t0, t1, t2, t3, t4, t5, t6⟩ := id hTB
    have hpw : p < wr.heap.size := hl2.lt
    have hS : ∀ w' : World, Below wr.heap.size wr w' → (fun w' : World => w'.cell? ⟨w.heap.size, 2, none⟩ = some (.string ⟨t.name.toArray⟩)) w' := fun w' h => (h.cell (p := ⟨w.heap.size, 2, none⟩) t6).trans t2
    have HSd := Lib.hid (hS wr.drew (Below.refl _ _).drew)
    have HSB := Lib.hid hS; clear hS
    go_wp2_with fail
    refine wp_region_T 6 (fun w' : World => w'.cell? ⟨w.heap.size, 2, none⟩ = some (.string ⟨t.name.toArray⟩)) (by kernel_rfl) ?_
    refine zT 0 ?_ rfl (Or.inl ⟨by rfl, ?_⟩) HSd.out ?_
    rotate_left
    ·(intro wq hSw; have q0 : wq.cell? ⟨w.heap.size, 2, none⟩ = some (.string ⟨t.name.toArray⟩) := hSw; go_simp; all_goals (with_reducible rfl))
    try simp only [zA, zB, zC, Act.put, zD, zE, zF]
    refine zT 2 ?_ rfl (Or.inl ⟨by rfl, ?_⟩) HSd.out ?_
    rotate_left
    ·(intro wq hSw; have q0 : wq.cell? ⟨w.heap.size, 2, none⟩ = some (.string ⟨t.name.toArray⟩) := hSw; go_simp; all_goals (with_reducible rfl))
    try simp only [zA, zB, zC, Act.put, zD, zE, zF]
    refine zT 3 ?_ rfl (Or.inl ⟨by rfl, ?_⟩) HSd.out ?_
    rotate_left
    ·(intro wq hSw; have q0 : wq.cell? ⟨w.heap.size, 2, none⟩ = some (.string ⟨t.name.toArray⟩) := hSw; go_simp; all_goals (with_reducible rfl))
    try simp only [zA, zB, zC, Act.put, zD, zE, zF]
    refine wpT_two (i := 1) (j := 4) rfl rfl (by kernel_rfl) (fun K hK => ?_) (fun K hK => ?_)
    ·go_simp
     refine (clone_own (HB.out.keep (D' := (· ≠ p)) (w' := wr.drew) (same_p (hg1.trans (grown_below (Below.refl _ _).drew _))) (fun b h _ => h)) (by omega)).mono ?_
     rintro e w1 ⟨v', rfl, hown, hb1⟩
     have hb1' : Below wr.heap.size wr w1 := chain ((Below.refl _ _).drew) hb1
     have hs1 := hb1'.size
     have hown' : w1.ownsRow wr.heap.size 9 1 v' bound.length (bound.map fun s => .string ⟨s.toArray⟩) := hown
     refine hK.out _ _ (fun _ => HSB.out w1 hb1') ?_
     clear hK K
     try simp only [zA, zB, zC, Act.put, zD, zE, zF]
     refine zO 4 fun K hK => ?_
     go_simp
     have hbA := hb1'.alloc hs1 (.cells #[.string ⟨t.name.toArray⟩] 9)
     refine hK.out _ _ (fun _ => HSB.out _ hbA) ?_
     clear hK K
     try simp only [zA, zB, zC, Act.put, zD, zE, zF]
     refine zO 5 fun K hK => ?_
     refine step_app rt_strs rfl (.tmp 55) (.tmp 58) rfl wr.heap.size v' bound.length (bound.map fun s => .string ⟨s.toArray⟩) rfl (hown'.alloc _) ⟨w1.heap.size, 0, none⟩ 1 1 [.string ⟨t.name.toArray⟩] rfl rfl (cell_one_new _ _ _) (by simp [Value.oneCell']) (by unfold maxLen; omega) (by omega) (by rw [World.size_alloc]; omega) (fun v'' w3 k1 k2 k3 k4 => ?_)
     have hb3 := hbA.trans k4
     clear hown hown'
     refine hK.out _ _ (fun _ => HSB.out _ hb3) ?_
     clear hK K
     try simp only [zA, zB, zC, Act.put, zD, zE, zF]
     refine zO 6 fun K hK => ?_
     go_simp
     refine hK.out _ _ (fun h => absurd h (by decide)) ?_
     clear hK K
     try simp only [zA, zB, zC, Act.put, zD, zE, zF]
     refine wpT_done (by kernel_rfl) ?_
     have hsx : StrsD (· ≠ p) w3 v'' (bound ++ [t.name]) := own_strs k1 (fun q hq => by omega)
     have hlx := hl2.keep hb3
     have hgx := hg1.trans (grown_below hb3 _)
     have hTBx := hTB.keep hb3 hTB.lt
     have HBLx : Hid (∀ s ∈ bound ++ [t.name], s.length ≤ maxLen) := by
      intro s hs
      rcases List.mem_append.1 hs with h | h
      ·exact HBL.out s h
      ·rw [List.mem_singleton.1 h]; exact HF.out.parts.1
     have hlen : ((bound ++ [t.name]).length : Int) + left ≤ 61 := by simp; omega
     clear hl2 hg1 hTB hb1 hb3 k1 k2 k3 k4 HSB HSd t0 t1 t2 t3 t4 t5 t6 u0 u1 u2 u3 u4 u5 u6
     have hl2 := hlx; have hg1 := hgx; have HBV := hsx
     clear hlx hgx hsx
     rw [← HBD.out] at HBV HBLx hlen
     obtain ⟨bvx, hbvx⟩ : ∃ x, v'' = x := ⟨_, rfl⟩
     rw [hbvx] at HBV
     rw [hbvx]
     clear hbvx
     obtain ⟨t0, t1, t2, t3, t4, t5, t6⟩ := id hTBx
     go_wp2_with fail
     go_loopw [63] (fun i wr => ∃ (k : Nat) (lk : Int), k ≤ 1 ∧ i = .int .i64 k ∧ 0 ≤ lk ∧ lk ≤ left - 1 ∧ Left wr p lk ∧ w.grownBy wr (some p) ∧ StrsD (· ≠ p) wr bvx bdx ∧ Hid (chkKids ks bdx (left - 1) = chkKids (ks.drop k) bdx lk)) (fun i _ => 1 - (intOf i).toNat)
     case atStart => exact ⟨0, left - 1, by omega, rfl, by omega, by omega, hl2, hg1, HBV, rfl⟩
     case round =>
      clear hl2 hg1 HBV hTBx t0 t1 t2 t3 t4 t5 t6
      obtain ⟨k, lk, hk, rfl, hlk0, hlk1, hl2, hg1, HBV, hs⟩ := hrel
      by_cases hlt : k < 1
      ·obtain ⟨c, hc'⟩ : ∃ x, ks[k]? = some x := ⟨_, List.getElem?_eq_getElem (by rw [HL.out]; exact hlt)⟩
       have HC' := Lib.hid hc'
       obtain ⟨-, -, b, off, A1, n1, p1, A2, n2, p2, eA, hbp, c0, c1, c2, c3, c4, hl', hk'⟩ := kid_atD (HK.out.keep (D' := (· ≠ p)) (same_p hg1) (fun b h _ => h)) hc'
       cases eA
       have HL' := Lib.hid hl'; have HK' := Lib.hid hk'; clear hl' hk' hc'
       have hcp : parts c ≤ m := by have h1 := parts_at (mem_of_at HC'.out); have h2 := HP.out; omega
       have hcf : Fit c := HFK.out c (mem_of_at HC'.out)
       obtain ⟨wa, hwa⟩ : ∃ y, wr.alloc (.cells #[.int .i64 c.kind, .int .i64 c.sort, .string ⟨c.name.toArray⟩, .slice A1 n1 p1, .slice A2 n2 p2] 30) = y := ⟨_, rfl⟩
       have hba : Below wr.heap.size wr wa := by subst hwa; exact (Below.refl _ _).alloc (Nat.le_refl _) _
       have hla := hl2.keep hba
       have hga := hg1.trans (grown_below hba _)
       have hkb : VBox wa wr.heap.size c (.slice A1 n1 p1) (.slice A2 n2 p2) := by subst hwa; exact ⟨by simp [go_sem], by simp [go_sem], by simp [go_sem], by simp [go_sem], by simp [go_sem], fun j => by simp [go_sem], by simp⟩
       obtain ⟨k0, k1, k2, k3, k4, k5, k6⟩ := id hkb
       obtain ⟨R, hR⟩ : ∃ x, chk c bdx lk = x := ⟨_, rfl⟩
       have HR := Lib.hid hR
       have hstep := hs.out
       rw [chkKids_drop HC'.out, hR] at hstep
       have hcall := ih c (.agg #[.int .i64 c.kind, .int .i64 c.sort, .string ⟨c.name.toArray⟩, .slice A1 n1 p1, .slice A2 n2 p2]) bvx bdx p lk wa hcp ((tyD_of HL'.out HK'.out).keep (Same.below hba) (fun b h _ => h)) hcf (HBV.keep (Same.below hba) (fun b h _ => h)) HBLx.out hlk0 (by omega) hla.c hla.f
       unfold CheckSays at hcall
       rw [hR] at hcall
       have HCALL := Lib.hid hcall
       clear hR hcall
       by_cases he : R.1 = 0
       ·have hp2 : 0 ≤ R.2 ∧ R.2 ≤ lk := by
         have h1 := chk_parts c bdx lk (by rw [HR.out]; exact he)
         rw [HR.out] at h1
         omega
        rw [if_neg (by simpa using he)] at hstep
        have HST := Lib.hid hstep
        have hE : (R.1 != 0) = false := by rw [bne_eq_false_iff_eq]; exact he
        clear hstep hs he
        go_wp2_with fail
        try rw [hwa]
        clear hwa
        refine HCALL.out.mono ?_
        rintro e w2 ⟨rfl, hg2, hc2, hf2⟩
        go_wp2_with fail
        go_roundw
        case rel => exact ⟨k + 1, R.2, by omega, by go_num, hp2.1, by omega, ⟨hc2, hf2⟩, hga.trans hg2, (HBV.keep (Same.below hba) (fun b h _ => h)).keep (same_p hg2) (fun b h _ => h), HST⟩
        case measure => simp [intOf]; omega
       ·rw [if_pos he] at hstep
        have HST := Lib.hid hstep
        have hE : (R.1 != 0) = true := by rw [bne_iff_ne]; exact he
        clear hstep hs he
        go_wp2_with fail
        try rw [hwa]
        clear hwa
        refine HCALL.out.mono ?_
        rintro e w2 ⟨rfl, hg2, hc2, hf2⟩
        go_wp2_with fail
        go_ret
        rw [HST.out]
        exact ⟨rfl, hga.trans hg2, hc2, hf2⟩
      ·have hend := hs.out
       rw [List.drop_of_length_le (by rw [HL.out]; omega)] at hend
       have HE := Lib.hid hend
       clear hend hs
       go_wp2_with fail
       go_ret
       rw [HE.out]
       exact ⟨rfl, hg1, hl2.c, hl2.f⟩
    ·go_simp
     have hbz : Below wr.heap.size wr (wr.alloc (.cells #[.string ⟨t.name.toArray⟩] 9)) := (Below.refl _ _).alloc (Nat.le_refl _) _
     refine hK.out _ _ (fun _ => HSB.out _ hbz.drew) ?_
     clear hK K
     try simp only [zA, zB, zC, Act.put, zD, zE, zF]
     refine zO 1 fun K hK => ?_
     go_simp
     refine (clone_own (HB.out.keep (D' := (· ≠ p)) (w' := (wr.alloc (.cells #[.string ⟨t.name.toArray⟩] 9)).drew) (same_p (hg1.trans (grown_below hbz.drew _))) (fun b h _ => h)) (by omega)).mono ?_
     rintro e w1 ⟨v', rfl, hown, hb1⟩
     have hb1' : Below wr.heap.size wr w1 := chain hbz.drew hb1
     have hs1 := hb1'.size
     have hown' : w1.ownsRow wr.heap.size 9 1 v' bound.length (bound.map fun s => .string ⟨s.toArray⟩) := own_mono hown (by show _ ≤ (wr.alloc _).heap.size; simp)
     have hnew : ∀ j u, ([.string ⟨t.name.toArray⟩] : List Value)[j]? = some u → w1.cell? ((⟨wr.heap.size, 0, none⟩ : Addr).add j) = some u := fun j u hj => by
      have h := cell_one_new wr (.string ⟨t.name.toArray⟩) 9 j u hj
      rw [Go.WideShapes.add_plain] at h ⊢
      exact cell_keep (w := (wr.alloc (.cells #[.string ⟨t.name.toArray⟩] 9)).drew) h hb1
     refine hK.out _ _ (fun _ => HSB.out w1 hb1') ?_
     clear hK K
     try simp only [zA, zB, zC, Act.put, zD, zE, zF]
     refine zO 5 fun K hK => ?_
     refine step_app rt_strs rfl (.tmp 55) (.tmp 58) rfl wr.heap.size v' bound.length (bound.map fun s => .string ⟨s.toArray⟩) rfl hown' ⟨wr.heap.size, 0, none⟩ 1 1 [.string ⟨t.name.toArray⟩] rfl rfl hnew (by simp [Value.oneCell']) (by unfold maxLen; omega) (by omega) (by skip; omega) (fun v'' w3 k1 k2 k3 k4 => ?_)
     have hb3 := hb1'.trans k4
     clear hown hown' hbz hnew
     refine hK.out _ _ (fun _ => HSB.out _ hb3) ?_
     clear hK K
     try simp only [zA, zB, zC, Act.put, zD, zE, zF]
     refine zO 6 fun K hK => ?_
     go_simp
     refine hK.out _ _ (fun h => absurd h (by decide)) ?_
     clear hK K
     try simp only [zA, zB, zC, Act.put, zD, zE, zF]
     refine wpT_done (by kernel_rfl) ?_
     have hsx : StrsD (· ≠ p) w3 v'' (bound ++ [t.name]) := own_strs k1 (fun q hq => by omega)
     have hlx := hl2.keep hb3
     have hgx := hg1.trans (grown_below hb3 _)
     have hTBx := hTB.keep hb3 hTB.lt
     have HBLx : Hid (∀ s ∈ bound ++ [t.name], s.length ≤ maxLen) := by
      intro s hs
      rcases List.mem_append.1 hs with h | h
      ·exact HBL.out s h
      ·rw [List.mem_singleton.1 h]; exact HF.out.parts.1
     have hlen : ((bound ++ [t.name]).length : Int) + left ≤ 61 := by simp; omega
     clear hl2 hg1 hTB hb1 hb3 k1 k2 k3 k4 HSB HSd t0 t1 t2 t3 t4 t5 t6 u0 u1 u2 u3 u4 u5 u6
     have hl2 := hlx; have hg1 := hgx; have HBV := hsx
     clear hlx hgx hsx
     rw [← HBD.out] at HBV HBLx hlen
     obtain ⟨bvx, hbvx⟩ : ∃ x, v'' = x := ⟨_, rfl⟩
     rw [hbvx] at HBV
     rw [hbvx]
     clear hbvx
     obtain ⟨t0, t1, t2, t3, t4, t5, t6⟩ := id hTBx
     go_wp2_with fail
     go_loopw [63] (fun i wr => ∃ (k : Nat) (lk : Int), k ≤ 1 ∧ i = .int .i64 k ∧ 0 ≤ lk ∧ lk ≤ left - 1 ∧ Left wr p lk ∧ w.grownBy wr (some p) ∧ StrsD (· ≠ p) wr bvx bdx ∧ Hid (chkKids ks bdx (left - 1) = chkKids (ks.drop k) bdx lk)) (fun i _ => 1 - (intOf i).toNat)
     case atStart => exact ⟨0, left - 1, by omega, rfl, by omega, by omega, hl2, hg1, HBV, rfl⟩
     case round =>
      clear hl2 hg1 HBV hTBx t0 t1 t2 t3 t4 t5 t6
      obtain ⟨k, lk, hk, rfl, hlk0, hlk1, hl2, hg1, HBV, hs⟩ := hrel
      by_cases hlt : k < 1
      ·obtain ⟨c, hc'⟩ : ∃ x, ks[k]? = some x := ⟨_, List.getElem?_eq_getElem (by rw [HL.out]; exact hlt)⟩
       have HC' := Lib.hid hc'
       obtain ⟨-, -, b, off, A1, n1, p1, A2, n2, p2, eA, hbp, c0, c1, c2, c3, c4, hl', hk'⟩ := kid_atD (HK.out.keep (D' := (· ≠ p)) (same_p hg1) (fun b h _ => h)) hc'
       cases eA
       have HL' := Lib.hid hl'; have HK' := Lib.hid hk'; clear hl' hk' hc'
       have hcp : parts c ≤ m := by have h1 := parts_at (mem_of_at HC'.out); have h2 := HP.out; omega
       have hcf : Fit c := HFK.out c (mem_of_at HC'.out)
       obtain ⟨wa, hwa⟩ : ∃ y, wr.alloc (.cells #[.int .i64 c.kind, .int .i64 c.sort, .string ⟨c.name.toArray⟩, .slice A1 n1 p1, .slice A2 n2 p2] 30) = y := ⟨_, rfl⟩
       have hba : Below wr.heap.size wr wa := by subst hwa; exact (Below.refl _ _).alloc (Nat.le_refl _) _
       have hla := hl2.keep hba
       have hga := hg1.trans (grown_below hba _)
       have hkb : VBox wa wr.heap.size c (.slice A1 n1 p1) (.slice A2 n2 p2) := by subst hwa; exact ⟨by simp [go_sem], by simp [go_sem], by simp [go_sem], by simp [go_sem], by simp [go_sem], fun j => by simp [go_sem], by simp⟩
       obtain ⟨k0, k1, k2, k3, k4, k5, k6⟩ := id hkb
       obtain ⟨R, hR⟩ : ∃ x, chk c bdx lk = x := ⟨_, rfl⟩
       have HR := Lib.hid hR
       have hstep := hs.out
       rw [chkKids_drop HC'.out, hR] at hstep
       have hcall := ih c (.agg #[.int .i64 c.kind, .int .i64 c.sort, .string ⟨c.name.toArray⟩, .slice A1 n1 p1, .slice A2 n2 p2]) bvx bdx p lk wa hcp ((tyD_of HL'.out HK'.out).keep (Same.below hba) (fun b h _ => h)) hcf (HBV.keep (Same.below hba) (fun b h _ => h)) HBLx.out hlk0 (by omega) hla.c hla.f
       unfold CheckSays at hcall
       rw [hR] at hcall
       have HCALL := Lib.hid hcall
       clear hR hcall
       by_cases he : R.1 = 0
       ·have hp2 : 0 ≤ R.2 ∧ R.2 ≤ lk := by
         have h1 := chk_parts c bdx lk (by rw [HR.out]; exact he)
         rw [HR.out] at h1
         omega
        rw [if_neg (by simpa using he)] at hstep
        have HST := Lib.hid hstep
        have hE : (R.1 != 0) = false := by rw [bne_eq_false_iff_eq]; exact he
        clear hstep hs he
        go_wp2_with fail
        try rw [hwa]
        clear hwa
        refine HCALL.out.mono ?_
        rintro e w2 ⟨rfl, hg2, hc2, hf2⟩
        go_wp2_with fail
        go_roundw
        case rel => exact ⟨k + 1, R.2, by omega, by go_num, hp2.1, by omega, ⟨hc2, hf2⟩, hga.trans hg2, (HBV.keep (Same.below hba) (fun b h _ => h)).keep (same_p hg2) (fun b h _ => h), HST⟩
        case measure => simp [intOf]; omega
       ·rw [if_pos he] at hstep
        have HST := Lib.hid hstep
        have hE : (R.1 != 0) = true := by rw [bne_iff_ne]; exact he
        clear hstep hs he
        go_wp2_with fail
        try rw [hwa]
        clear hwa
        refine HCALL.out.mono ?_
        rintro e w2 ⟨rfl, hg2, hc2, hf2⟩
        go_wp2_with fail
        go_ret
        rw [HST.out]
        exact ⟨rfl, hga.trans hg2, hc2, hf2⟩
      ·have hend := hs.out
       rw [List.drop_of_length_le (by rw [HL.out]; omega)] at hend
       have HE := Lib.hid hend
       clear hend hs
       go_wp2_with fail
       go_ret
       rw [HE.out]
       exact ⟨rfl, hg1, hl2.c, hl2.f⟩
set_option maxRecDepth 100000
theorem chk_z {t : Ty} {b : List Str} {left : Int} (h : left = 0) : chk t b left = (2, left - 1) := by
 obtain ⟨k, s, n, ls, ks⟩ := t
 simp only [chk]; rw [if_pos (by omega)]
theorem chk_s {t : Ty} {b : List Str} {left : Int} (h : 1 ≤ left) (hs : shapeOk t.kind t.sort t.name t.labels t.kids.length = false) : chk t b left = (1, left - 1) := by
 obtain ⟨k, s, n, ls, ks⟩ := t
 simp only [Ty.kind, Ty.sort, Ty.name, Ty.labels, Ty.kids] at hs
 simp only [chk]; rw [if_neg (by omega), if_pos hs]
theorem chk_o {t : Ty} {b : List Str} {left : Int} (h : 1 ≤ left) (hs : shapeOk t.kind t.sort t.name t.labels t.kids.length = true) (h9 : t.kind ≠ 9) (h8 : t.kind ≠ 8) : chk t b left = chkKids t.kids b (left - 1) := by
 obtain ⟨k, s, n, ls, ks⟩ := t
 simp only [Ty.kind, Ty.sort, Ty.name, Ty.labels, Ty.kids] at hs h9 h8 ⊢
 simp only [chk]; rw [if_neg (by omega), if_neg (by rw [hs]; simp), if_neg h9, if_neg h8]
theorem chk_v4 {t : Ty} {b : List Str} {left : Int} (h : 1 ≤ left) (hs : shapeOk t.kind t.sort t.name t.labels t.kids.length = true) (h9 : t.kind = 9) (hn : ¬ t.name ∈ b) : chk t b left = (4, left - 1) := by
 obtain ⟨k, s, n, ls, ks⟩ := t
 simp only [Ty.kind, Ty.sort, Ty.name, Ty.labels, Ty.kids] at hs h9 hn ⊢
 simp only [chk]; rw [if_neg (by omega), if_neg (by rw [hs]; simp), if_pos h9, if_neg hn]
theorem chk_v0 {t : Ty} {b : List Str} {left : Int} (h : 1 ≤ left) (hs : shapeOk t.kind t.sort t.name t.labels t.kids.length = true) (h9 : t.kind = 9) (hn : t.name ∈ b) : chk t b left = chkKids t.kids b (left - 1) := by
 obtain ⟨k, s, n, ls, ks⟩ := t
 simp only [Ty.kind, Ty.sort, Ty.name, Ty.labels, Ty.kids] at hs h9 hn ⊢
 simp only [chk]; rw [if_neg (by omega), if_neg (by rw [hs]; simp), if_pos h9, if_pos hn]
theorem chk_r7 {t : Ty} {b : List Str} {left : Int} (h : 1 ≤ left) (hs : shapeOk t.kind t.sort t.name t.labels t.kids.length = true) (h8 : t.kind = 8) (hq : (bottom t).kind = 9) : chk t b left = (7, left - 1) := by
 obtain ⟨k, s, n, ls, ks⟩ := t
 simp only [Ty.kind, Ty.sort, Ty.name, Ty.labels, Ty.kids] at hs h8 ⊢
 simp only [chk]; rw [if_neg (by omega), if_neg (by rw [hs]; simp), if_neg (by omega), if_pos h8, if_pos hq]
theorem chk_r {t : Ty} {b : List Str} {left : Int} (h : 1 ≤ left) (hs : shapeOk t.kind t.sort t.name t.labels t.kids.length = true) (h8 : t.kind = 8) (hq : (bottom t).kind ≠ 9) : chk t b left = chkKids t.kids (b ++ [t.name]) (left - 1) := by
 obtain ⟨k, s, n, ls, ks⟩ := t
 simp only [Ty.kind, Ty.sort, Ty.name, Ty.labels, Ty.kids] at hs h8 ⊢
 simp only [chk]; rw [if_neg (by omega), if_neg (by rw [hs]; simp), if_neg (by omega), if_pos h8, if_neg hq]
theorem rec_kid {t : Ty} (hs : shapeOk t.kind t.sort t.name t.labels t.kids.length = true) (h8 : t.kind = 8) : ∃ c, t.kids = [c] := by
 have h := shape_of hs
 have hl : t.kids.length = 1 := by
  have : ∀ {k s : Int} {n : Str} {ls : List Str} {c : Nat}, Shape k s n ls c → k = 8 → c = 1 := by
   intro k s n ls c h hk
   cases h <;> omega
  exact this h h8
 match hk : t.kids, hl with
 | [c], _ => exact ⟨c, rfl⟩

theorem check_any : ∀ (m : Nat) (t : Ty) (v bv : Value) (bound : List Str) (p : Nat) (left : Int) (w : World), parts t ≤ m → TyD (· ≠ p) w v t → Fit t → StrsD (· ≠ p) w bv bound → (∀ s ∈ bound, s.length ≤ maxLen) → 0 ≤ left → (bound.length : Int) + left ≤ 60 → w.cell? ⟨p, 0, none⟩ = some (.int .i64 left) → w.frozen? ⟨p, 0, none⟩ = false → CheckSays t v bv bound p left w := by
 intro m
 induction m with
 | zero => intro t v bv bound p left w h; cases t; simp only [parts] at h; omega
 | succ m ih =>
 intro t v bv bound p left w hm hv hf hbv hbl hl0 hl hc hfr
 by_cases hz : left = 0
 ·exact check_z m ih t v bv bound p left w hm hv hf hbv hbl hl0 hl hc hfr (chk_z hz) hz
 have hpos : 1 ≤ left := by omega
 cases hs : shapeOk t.kind t.sort t.name t.labels t.kids.length with
 | false => exact check_s m ih t v bv bound p left w hm hv hf hbv hbl hl0 hl hc hfr (chk_s hpos hs) hpos hs
 | true =>
 by_cases h9 : t.kind = 9
 ·by_cases hn : t.name ∈ bound
  ·exact check_v0 m ih t v bv bound p left w hm hv hf hbv hbl hl0 hl hc hfr (chk_v0 hpos hs h9 hn) hpos hs (by simp [h9]) (by simp [h9]) (by simp [hn])
  ·exact check_v4 m ih t v bv bound p left w hm hv hf hbv hbl hl0 hl hc hfr (chk_v4 hpos hs h9 hn) hpos hs (by simp [h9]) (by simp [hn])
 ·by_cases h8 : t.kind = 8
  ·obtain ⟨c, hkc⟩ := rec_kid hs h8
   have hbk := bottom_kid h8 hkc
   by_cases hq : (bottom t).kind = 9
   ·exact check_r7 m ih t v bv bound p left w hm hv hf hbv hbl hl0 hl hc hfr c hkc (chk_r7 hpos hs h8 hq) hpos hs (by simp [h9]) (by simp [h8]) (by rw [← hbk]; exact hq)
   ·exact check_r m ih t v bv bound p left w hm hv hf hbv hbl hl0 hl hc hfr c hkc _ rfl (chk_r hpos hs h8 hq) hpos hs (by simp [h9]) (by simp [h8]) (by rw [← hbk]; exact hq)
  ·exact check_o m ih t v bv bound p left w hm hv hf hbv hbl hl0 hl hc hfr (chk_o hpos hs h9 h8) hpos hs (by simp [h9]) (by simp [h8])

set_option maxHeartbeats 1000000 in
theorem Check_any (t : Ty) (v : Value) (w : World) (hv : IsTy w v t) (hf : Fit t) :
  Calls Tryz.prog 50 #[v] w fun e w' => e = .returned (.int .i64 (tyErr t)) ∧ Below w.heap.size w w' := by
 have HZ := Lib.hid hv
 obtain ⟨ANS, hA⟩ : ∃ x, tyErr t = x := ⟨_, rfl⟩
 have HA := Lib.hid hA; rw [hA]; clear hA
 obtain ⟨lv, kv, rfl, h1, h2⟩ := hv
 obtain ⟨A0, p0, rfl, -, -⟩ := h1
 obtain ⟨A, cap, rfl, -, -⟩ := h2
 go_enter Tryz.func50, Tryz.ntmps50
 go_wp2_with fail
 have hbW : Below w.heap.size w ((w.alloc (.cells #[.int .i64 t.kind, .int .i64 t.sort, .string ⟨t.name.toArray⟩, .slice A0 t.labels.length p0, .slice A t.kids.length cap] 30)).alloc (.cells #[.int .i64 60] 3)) := by go_grown
 have hcall := check_any (parts t) t (.agg #[.int .i64 t.kind, .int .i64 t.sort, .string ⟨t.name.toArray⟩, .slice A0 t.labels.length p0, .slice A t.kids.length cap]) (.slice none 0 0) [] (w.heap.size + 1) 60 ((w.alloc (.cells #[.int .i64 t.kind, .int .i64 t.sort, .string ⟨t.name.toArray⟩, .slice A0 t.labels.length p0, .slice A t.kids.length cap] 30)).alloc (.cells #[.int .i64 60] 3)) (Nat.le_refl _)
  (HZ.out.toD.keep (Same.below hbW) (fun b h _ => by have h' : b < w.heap.size := h; omega)) hf ⟨none, 0, rfl, Nat.le_refl _, fun h => by simp at h⟩ (by simp) (by omega) (by simp) (by simp [go_sem]) (by simp [go_sem])
 unfold CheckSays at hcall
 refine hcall.mono ?_
 clear hcall
 rintro e w1 ⟨rfl, hg, -, -⟩
 have hb1 := hbW.grown hg (by simp; omega) (fun k hk => by injection hk; omega)
 go_wp2_with fail
 go_ret
 exact ⟨by rw [← HA.out]; rfl, hb1⟩
end Go.Proofs.YtpidjanngbaiiaaGreatDoor
