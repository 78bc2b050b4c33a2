/-
  global.check answers 'gchk'.
  global.check answers 'chk': the quick cases, a Var.
-/
import Derived.Test.YtgnkncfnkjeinaaDoorM8
import Derived.Test.YtgnkncfnkjeinaaDoorM14
namespace Go.Proofs.YtgnkncfnkjeinaaDoor
open Go.RowKit Go.Proofs

set_option maxRecDepth 100000
def GCheckSays (t : Gl) (v bv : Value) (bound : List Str) (p : Nat) (left : Int) (w : World) : Prop :=
  Calls Tryd.prog 72 #[v, bv, .pointer (some ⟨p, 0, none⟩)] w fun e w' => e = .returned (.int .i64 (gchk t bound left).1) ∧ w.grownBy w' (some p) ∧ w'.cell? ⟨p, 0, none⟩ = some (.int .i64 (gchk t bound left).2) ∧ w'.frozen? ⟨p, 0, none⟩ = false
theorem GBox.far7 {w : World} {b q : Nat} {t : Gl} {lv kv : Value} (h : GBox w b t lv kv) (hq : q ≠ b) (x0 x1 x2 x3 x4 x5 x6 : Value) :
    GBox (((((((w.setCell ⟨q, 0, none⟩ x0).setCell ⟨q, 1, none⟩ x1).setCell ⟨q, 2, none⟩ x2).setCell ⟨q, 3, none⟩ x3).setCell ⟨q, 4, none⟩ x4).setCell ⟨q, 5, none⟩ x5).setCell ⟨q, 6, none⟩ x6) b t lv kv :=
  ((((((h.far (p := ⟨q, 0, none⟩) hq x0).far (p := ⟨q, 1, none⟩) hq x1).far (p := ⟨q, 2, none⟩) hq x2).far (p := ⟨q, 3, none⟩) hq x3).far (p := ⟨q, 4, none⟩) hq x4).far (p := ⟨q, 5, none⟩) hq x5).far (p := ⟨q, 6, none⟩) hq x6
theorem Left.far7 {w : World} {p q : Nat} {left : Int} (h : Left w p left) (hq : q ≠ p) (x0 x1 x2 x3 x4 x5 x6 : Value) :
    Left (((((((w.setCell ⟨q, 0, none⟩ x0).setCell ⟨q, 1, none⟩ x1).setCell ⟨q, 2, none⟩ x2).setCell ⟨q, 3, none⟩ x3).setCell ⟨q, 4, none⟩ x4).setCell ⟨q, 5, none⟩ x5).setCell ⟨q, 6, none⟩ x6) p left :=
  (h.far5 hq x0 x1 x2 x3 x4).far (a := ⟨q, 5, none⟩) hq x5 |>.far (a := ⟨q, 6, none⟩) hq x6
theorem grown_fill7 {w wr : World} {row : Option Nat} {q : Nat} (h : w.grownBy wr row) (hq : w.heap.size ≤ q) (x0 x1 x2 x3 x4 x5 x6 : Value) :
    w.grownBy (((((((wr.setCell ⟨q, 0, none⟩ x0).setCell ⟨q, 1, none⟩ x1).setCell ⟨q, 2, none⟩ x2).setCell ⟨q, 3, none⟩ x3).setCell ⟨q, 4, none⟩ x4).setCell ⟨q, 5, none⟩ x5).setCell ⟨q, 6, none⟩ x6) row :=
  grown_far (grown_far (grown_fill h hq x0 x1 x2 x3 x4) (a := ⟨q, 5, none⟩) hq x5) (a := ⟨q, 6, none⟩) hq x6
theorem gchkKids_drop {ks : List Gl} {b : List Str} {l : Int} {k : Nat} {c : Gl} (h : ks[k]? = some c) : gchkKids (ks.drop k) b l = if (gchk c b l).1 ≠ 0 then gchk c b l else gchkKids (ks.drop (k + 1)) b (gchk c b l).2 := by
  obtain ⟨h1, h2⟩ := List.getElem?_eq_some_iff.1 h
  rw [List.drop_eq_getElem_cons h1, h2]
  rfl

set_option maxHeartbeats 2000000 in
theorem gcheck_o (m : Nat) (ih : ∀ (t : Gl) (v bv : Value) (bound : List Str) (p : Nat) (left : Int) (w : World), gparts t ≤ m → GlV (· ≠ p) w v t → GFit t → StrsD (· ≠ p) w bv bound → (∀ s ∈ bound, s.length ≤ maxLen) → 0 ≤ left → (bound.length : Int) + left ≤ 60 → w.cell? ⟨p, 0, none⟩ = some (.int .i64 left) → w.frozen? ⟨p, 0, none⟩ = false → GCheckSays t v bv bound p left w)
    (t : Gl) (v bv : Value) (bound : List Str) (p : Nat) (left : Int) (w : World) (hm : gparts t ≤ m + 1) (hv : GlV (· ≠ p) w v t) (hf : GFit t) (hbv : StrsD (· ≠ p) w bv bound) (hbl : ∀ s ∈ bound, s.length ≤ maxLen) (hl0 : 0 ≤ left) (hl : (bound.length : Int) + left ≤ 60) (hc : w.cell? ⟨p, 0, none⟩ = some (.int .i64 left)) (hfr : w.frozen? ⟨p, 0, none⟩ = false)
    (hans : gchk t bound left = gchkKids t.kids bound (left - 1)) (hpos : 1 ≤ left) (hsh : gShape t.kind t.frm t.rcv t.sort t.name t.labels t.kids.length = true) (h9 : (t.kind == 9) = false) (h8 : (t.kind == 8) = false) :
    GCheckSays t v bv bound p left w := by
  unfold GCheckSays
  rw [hans]
  clear hans
  have HT := Lib.hid hv
  have HB := Lib.hid hbv
  obtain ⟨lv, kv, rfl, h1, h2⟩ := hv
  have HK := Lib.hid h2
  obtain ⟨A0, p0, rfl, -, -⟩ := h1
  obtain ⟨A, cap, rfl, -, -⟩ := h2
  have HF := Lib.hid hf
  have HBL := Lib.hid hbl
  have HC := Lib.hid hc
  have hp := cell_lt hc
  obtain ⟨ks, hks⟩ : ∃ x, t.kids = x := ⟨_, rfl⟩
  have HFK : Hid (∀ c ∈ ks, GFit c) := by have := HF.out.parts.2.2.2.2.2.2; rw [hks] at this; exact this
  have HP : Hid (1 + gpartss ks ≤ m + 1) := by cases t; subst hks; exact hm
  have hkl : ks.length ≤ maxLen := by rw [← hks]; exact hf.kidsLen
  unfold maxLen at hkl
  have HKS := Lib.hid hks
  rw [hks] at HK hsh ⊢
  obtain ⟨L, hL⟩ : ∃ x, ks.length = x := ⟨_, rfl⟩
  have HL := Lib.hid hL
  rw [hL] at HK hkl hsh ⊢
  clear hks hL
  go_enter Tryd.func72, Tryd.ntmps72
  go_wp2_with fail
  obtain ⟨W, hW⟩ : ∃ W, (w.setCell ⟨p, 0, none⟩ (.int .i64 (left - 1))).alloc (.cells #[.int .i64 t.kind, .string ⟨t.frm.toArray⟩, .string ⟨t.rcv.toArray⟩, .int .i64 t.sort, .string ⟨t.name.toArray⟩, .slice A0 t.labels.length p0, .slice A L cap] 52) = W := ⟨_, rfl⟩
  have hl1 : Left W p (left - 1) := by subst hW; exact ((⟨hc, hfr⟩ : Left w p left).set (left - 1)).keep ((Below.refl _ _).alloc (Nat.le_refl _) _)
  have hgW : w.grownBy W (some p) := by subst hW; exact (grown_set w p _).trans (World.grownBy_alloc _ _ _)
  have hTB : GBox W w.heap.size t (.slice A0 t.labels.length p0) (.slice A L cap) := by subst hW; exact ⟨by simp [go_sem], by simp [go_sem], by simp [go_sem], by simp [go_sem], by simp [go_sem], by simp [go_sem], by simp [go_sem], fun j => by simp [go_sem], by simp⟩
  try rw [hW]
  clear hW
  refine (gshaped_any t _ W (by have := HT.out.keep (D' := (· ≠ p)) (same_p hgW) (fun b h _ => h); rw [HKS.out, HL.out] at this; exact this) HF.out).mono ?_
  rw [HKS.out, HL.out, hsh]
  rintro e w1 ⟨rfl, hb1⟩
  have hl2 := hl1.keep hb1
  have hg1 := hgW.trans (grown_below hb1 _)
  have hTB1 := hTB.keep hb1 hTB.lt
  obtain ⟨t0, t1, t2, t3, t4, t5, t6, t7, t8⟩ := id hTB1
  clear hl1 hgW hTB hb1
  have HBV := HB.out.keep (D' := (· ≠ p)) (same_p hg1) (fun b h _ => h)
  go_wp2_with fail
  go_loopw [63] (fun i wr => ∃ (k : Nat) (lk : Int), k ≤ L ∧ i = .int .i64 k ∧ 0 ≤ lk ∧ lk ≤ left - 1 ∧ Left wr p lk ∧ w.grownBy wr (some p) ∧ StrsD (· ≠ p) wr bv bound ∧ Hid (gchkKids ks bound (left - 1) = gchkKids (ks.drop k) bound lk)) (fun i _ => L - (intOf i).toNat)
  case atStart => exact ⟨0, left - 1, by omega, rfl, by omega, by omega, hl2, hg1, HBV, rfl⟩
  case round =>
    clear hl2 hg1 HBV hTB1 t0 t1 t2 t3 t4 t5 t6 t7 t8
    obtain ⟨k, lk, hk, rfl, hlk0, hlk1, hl2, hg1, HBV, hs⟩ := hrel
    by_cases hlt : k < L
    · obtain ⟨c, hc'⟩ : ∃ x, ks[k]? = some x := ⟨_, List.getElem?_eq_getElem (by rw [HL.out]; exact hlt)⟩
      have HC' := Lib.hid hc'
      obtain ⟨-, -, b, off, A1, n1, p1, A2, n2, p2, rfl, hbp, c0, c1, c2, c3, c4, c5, c6, hl', hk'⟩ := gkid_at (HK.out.keep (D' := (· ≠ p)) (same_p hg1) (fun b h _ => h)) hc'
      have HL' := Lib.hid hl'; have HK' := Lib.hid hk'; clear hl' hk' hc'
      have hcp : gparts c ≤ m := by have h1 := gparts_at (mem_of_at HC'.out); have h2 := HP.out; omega
      have hcf : GFit c := HFK.out c (mem_of_at HC'.out)
      obtain ⟨wa, hwa⟩ : ∃ y, wr.alloc (.cells #[.int .i64 c.kind, .string ⟨c.frm.toArray⟩, .string ⟨c.rcv.toArray⟩, .int .i64 c.sort, .string ⟨c.name.toArray⟩, .slice A1 n1 p1, .slice A2 n2 p2] 52) = y := ⟨_, rfl⟩
      have hba : Below wr.heap.size wr wa := by subst hwa; exact (Below.refl _ _).alloc (Nat.le_refl _) _
      have hla := hl2.keep hba
      have hga := hg1.trans (grown_below hba _)
      have hkb : GBox wa wr.heap.size c (.slice A1 n1 p1) (.slice A2 n2 p2) := by subst hwa; exact ⟨by simp [go_sem], by simp [go_sem], by simp [go_sem], by simp [go_sem], by simp [go_sem], by simp [go_sem], by simp [go_sem], fun j => by simp [go_sem], by simp⟩
      obtain ⟨k0, k1, k2, k3, k4, k5, k6, k7, k8⟩ := id hkb
      obtain ⟨R, hR⟩ : ∃ x, gchk c bound lk = x := ⟨_, rfl⟩
      have HR := Lib.hid hR
      have hstep := hs.out
      rw [gchkKids_drop HC'.out, hR] at hstep
      have hcall := ih c (.agg #[.int .i64 c.kind, .string ⟨c.frm.toArray⟩, .string ⟨c.rcv.toArray⟩, .int .i64 c.sort, .string ⟨c.name.toArray⟩, .slice A1 n1 p1, .slice A2 n2 p2]) bv bound p lk wa hcp ((glV_of HL'.out HK'.out).keep (Same.below hba) (fun b h _ => h)) hcf (HBV.keep (Same.below hba) (fun b h _ => h)) HBL.out hlk0 (by omega) hla.c hla.f
      unfold GCheckSays at hcall
      rw [hR] at hcall
      have HCALL := Lib.hid hcall
      clear hR hcall
      by_cases he : R.1 = 0
      · have hp2 : 0 ≤ R.2 ∧ R.2 ≤ lk := by
          have h1 := gchk_parts c bound lk (by rw [HR.out]; exact he)
          rw [HR.out] at h1
          omega
        rw [if_neg (by simpa using he)] at hstep
        have HST := Lib.hid hstep
        have hE : (R.1 != 0) = false := by rw [bne_eq_false_iff_eq]; exact he
        clear hstep hs he
        go_wp2_with fail
        try rw [hwa]
        clear hwa
        refine HCALL.out.mono ?_
        rintro e w2 ⟨rfl, hg2, hc2, hf2⟩
        go_wp2_with fail
        go_roundw
        case rel => exact ⟨k + 1, R.2, by omega, by go_num, hp2.1, by omega, ⟨hc2, hf2⟩, hga.trans hg2, (HBV.keep (Same.below hba) (fun b h _ => h)).keep (same_p hg2) (fun b h _ => h), HST⟩
        case measure => simp [intOf]; omega
      · rw [if_pos he] at hstep
        have HST := Lib.hid hstep
        have hE : (R.1 != 0) = true := by rw [bne_iff_ne]; exact he
        clear hstep hs he
        go_wp2_with fail
        try rw [hwa]
        clear hwa
        refine HCALL.out.mono ?_
        rintro e w2 ⟨rfl, hg2, hc2, hf2⟩
        go_wp2_with fail
        go_ret
        rw [HST.out]
        exact ⟨rfl, hga.trans hg2, hc2, hf2⟩
    · have hend := hs.out
      rw [List.drop_of_length_le (by rw [HL.out]; omega)] at hend
      have HE := Lib.hid hend
      clear hend hs
      go_wp2_with fail
      go_ret
      rw [HE.out]
      exact ⟨rfl, hg1, hl2.c, hl2.f⟩
end Go.Proofs.YtgnkncfnkjeinaaDoor
namespace Go.Proofs.YtgnkncfnkjeinaaDoor
open Go.RowKit Go.Proofs

set_option maxRecDepth 100000
set_option maxHeartbeats 2000000 in
theorem gcheck_z (m : Nat) (ih : ∀ (t : Gl) (v bv : Value) (bound : List Str) (p : Nat) (left : Int) (w : World), gparts t ≤ m → GlV (· ≠ p) w v t → GFit t → StrsD (· ≠ p) w bv bound → (∀ s ∈ bound, s.length ≤ maxLen) → 0 ≤ left → (bound.length : Int) + left ≤ 60 → w.cell? ⟨p, 0, none⟩ = some (.int .i64 left) → w.frozen? ⟨p, 0, none⟩ = false → GCheckSays t v bv bound p left w)
    (t : Gl) (v bv : Value) (bound : List Str) (p : Nat) (left : Int) (w : World) (hm : gparts t ≤ m + 1) (hv : GlV (· ≠ p) w v t) (hf : GFit t) (hbv : StrsD (· ≠ p) w bv bound) (hbl : ∀ s ∈ bound, s.length ≤ maxLen) (hl0 : 0 ≤ left) (hl : (bound.length : Int) + left ≤ 60) (hc : w.cell? ⟨p, 0, none⟩ = some (.int .i64 left)) (hfr : w.frozen? ⟨p, 0, none⟩ = false)
    (hans : gchk t bound left = (2, left - 1)) (hz : left = 0) :
    GCheckSays t v bv bound p left w := by
  unfold GCheckSays
  rw [hans]
  clear hans
  have HT := Lib.hid hv
  have HB := Lib.hid hbv
  obtain ⟨lv, kv, rfl, h1, h2⟩ := hv
  have HK := Lib.hid h2
  obtain ⟨A0, p0, rfl, -, -⟩ := h1
  obtain ⟨A, cap, rfl, -, -⟩ := h2
  have HF := Lib.hid hf
  have HBL := Lib.hid hbl
  have HC := Lib.hid hc
  have hp := cell_lt hc
  obtain ⟨ks, hks⟩ : ∃ x, t.kids = x := ⟨_, rfl⟩
  have HFK : Hid (∀ c ∈ ks, GFit c) := by have := HF.out.parts.2.2.2.2.2.2; rw [hks] at this; exact this
  have HP : Hid (1 + gpartss ks ≤ m + 1) := by cases t; subst hks; exact hm
  have hkl : ks.length ≤ maxLen := by rw [← hks]; exact hf.kidsLen
  unfold maxLen at hkl
  have HKS := Lib.hid hks
  rw [hks] at HK ⊢
  obtain ⟨L, hL⟩ : ∃ x, ks.length = x := ⟨_, rfl⟩
  have HL := Lib.hid hL
  rw [hL] at HK hkl ⊢
  clear hks hL
  subst hz
  go_enter Tryd.func72, Tryd.ntmps72
  go_wp2_with fail
  go_ret
  have hgW : w.grownBy ((w.setCell ⟨p, 0, none⟩ (.int .i64 (-1))).alloc (.cells #[.int .i64 t.kind, .string ⟨t.frm.toArray⟩, .string ⟨t.rcv.toArray⟩, .int .i64 t.sort, .string ⟨t.name.toArray⟩, .slice A0 t.labels.length p0, .slice A L cap] 52)) (some p) := (grown_set w p _).trans (World.grownBy_alloc _ _ _)
  have hl1 := ((⟨hc, hfr⟩ : Left w p 0).set (-1)).keep ((Below.refl _ _).alloc (Nat.le_refl _) (.cells #[.int .i64 t.kind, .string ⟨t.frm.toArray⟩, .string ⟨t.rcv.toArray⟩, .int .i64 t.sort, .string ⟨t.name.toArray⟩, .slice A0 t.labels.length p0, .slice A L cap] 52))
  exact ⟨rfl, hgW, hl1.c, hl1.f⟩

set_option maxHeartbeats 2000000 in
theorem gcheck_s (m : Nat) (ih : ∀ (t : Gl) (v bv : Value) (bound : List Str) (p : Nat) (left : Int) (w : World), gparts t ≤ m → GlV (· ≠ p) w v t → GFit t → StrsD (· ≠ p) w bv bound → (∀ s ∈ bound, s.length ≤ maxLen) → 0 ≤ left → (bound.length : Int) + left ≤ 60 → w.cell? ⟨p, 0, none⟩ = some (.int .i64 left) → w.frozen? ⟨p, 0, none⟩ = false → GCheckSays t v bv bound p left w)
    (t : Gl) (v bv : Value) (bound : List Str) (p : Nat) (left : Int) (w : World) (hm : gparts t ≤ m + 1) (hv : GlV (· ≠ p) w v t) (hf : GFit t) (hbv : StrsD (· ≠ p) w bv bound) (hbl : ∀ s ∈ bound, s.length ≤ maxLen) (hl0 : 0 ≤ left) (hl : (bound.length : Int) + left ≤ 60) (hc : w.cell? ⟨p, 0, none⟩ = some (.int .i64 left)) (hfr : w.frozen? ⟨p, 0, none⟩ = false)
    (hans : gchk t bound left = (1, left - 1)) (hpos : 1 ≤ left) (hsh : gShape t.kind t.frm t.rcv t.sort t.name t.labels t.kids.length = false) :
    GCheckSays t v bv bound p left w := by
  unfold GCheckSays
  rw [hans]
  clear hans
  have HT := Lib.hid hv
  have HB := Lib.hid hbv
  obtain ⟨lv, kv, rfl, h1, h2⟩ := hv
  have HK := Lib.hid h2
  obtain ⟨A0, p0, rfl, -, -⟩ := h1
  obtain ⟨A, cap, rfl, -, -⟩ := h2
  have HF := Lib.hid hf
  have HBL := Lib.hid hbl
  have HC := Lib.hid hc
  have hp := cell_lt hc
  obtain ⟨ks, hks⟩ : ∃ x, t.kids = x := ⟨_, rfl⟩
  have HFK : Hid (∀ c ∈ ks, GFit c) := by have := HF.out.parts.2.2.2.2.2.2; rw [hks] at this; exact this
  have HP : Hid (1 + gpartss ks ≤ m + 1) := by cases t; subst hks; exact hm
  have hkl : ks.length ≤ maxLen := by rw [← hks]; exact hf.kidsLen
  unfold maxLen at hkl
  have HKS := Lib.hid hks
  rw [hks] at HK hsh ⊢
  obtain ⟨L, hL⟩ : ∃ x, ks.length = x := ⟨_, rfl⟩
  have HL := Lib.hid hL
  rw [hL] at HK hkl hsh ⊢
  clear hks hL
  go_enter Tryd.func72, Tryd.ntmps72
  go_wp2_with fail
  obtain ⟨W, hW⟩ : ∃ W, (w.setCell ⟨p, 0, none⟩ (.int .i64 (left - 1))).alloc (.cells #[.int .i64 t.kind, .string ⟨t.frm.toArray⟩, .string ⟨t.rcv.toArray⟩, .int .i64 t.sort, .string ⟨t.name.toArray⟩, .slice A0 t.labels.length p0, .slice A L cap] 52) = W := ⟨_, rfl⟩
  have hl1 : Left W p (left - 1) := by subst hW; exact ((⟨hc, hfr⟩ : Left w p left).set (left - 1)).keep ((Below.refl _ _).alloc (Nat.le_refl _) _)
  have hgW : w.grownBy W (some p) := by subst hW; exact (grown_set w p _).trans (World.grownBy_alloc _ _ _)
  have hTB : GBox W w.heap.size t (.slice A0 t.labels.length p0) (.slice A L cap) := by subst hW; exact ⟨by simp [go_sem], by simp [go_sem], by simp [go_sem], by simp [go_sem], by simp [go_sem], by simp [go_sem], by simp [go_sem], fun j => by simp [go_sem], by simp⟩
  try rw [hW]
  clear hW
  refine (gshaped_any t _ W (by have := HT.out.keep (D' := (· ≠ p)) (same_p hgW) (fun b h _ => h); rw [HKS.out, HL.out] at this; exact this) HF.out).mono ?_
  rw [HKS.out, HL.out, hsh]
  rintro e w1 ⟨rfl, hb1⟩
  have hl2 := hl1.keep hb1
  have hg1 := hgW.trans (grown_below hb1 _)
  have hTB1 := hTB.keep hb1 hTB.lt
  go_wp2_with fail
  go_ret
  exact ⟨rfl, hg1, hl2.c, hl2.f⟩

set_option maxHeartbeats 2000000 in
theorem gcheck_v4 (m : Nat) (ih : ∀ (t : Gl) (v bv : Value) (bound : List Str) (p : Nat) (left : Int) (w : World), gparts t ≤ m → GlV (· ≠ p) w v t → GFit t → StrsD (· ≠ p) w bv bound → (∀ s ∈ bound, s.length ≤ maxLen) → 0 ≤ left → (bound.length : Int) + left ≤ 60 → w.cell? ⟨p, 0, none⟩ = some (.int .i64 left) → w.frozen? ⟨p, 0, none⟩ = false → GCheckSays t v bv bound p left w)
    (t : Gl) (v bv : Value) (bound : List Str) (p : Nat) (left : Int) (w : World) (hm : gparts t ≤ m + 1) (hv : GlV (· ≠ p) w v t) (hf : GFit t) (hbv : StrsD (· ≠ p) w bv bound) (hbl : ∀ s ∈ bound, s.length ≤ maxLen) (hl0 : 0 ≤ left) (hl : (bound.length : Int) + left ≤ 60) (hc : w.cell? ⟨p, 0, none⟩ = some (.int .i64 left)) (hfr : w.frozen? ⟨p, 0, none⟩ = false)
    (hans : gchk t bound left = (4, left - 1)) (hpos : 1 ≤ left) (hsh : gShape t.kind t.frm t.rcv t.sort t.name t.labels t.kids.length = true) (h9 : (t.kind == 9) = true) (hin : decide (t.name ∈ bound) = false) :
    GCheckSays t v bv bound p left w := by
  unfold GCheckSays
  rw [hans]
  clear hans
  have HT := Lib.hid hv
  have HB := Lib.hid hbv
  obtain ⟨lv, kv, rfl, h1, h2⟩ := hv
  have HK := Lib.hid h2
  obtain ⟨A0, p0, rfl, -, -⟩ := h1
  obtain ⟨A, cap, rfl, -, -⟩ := h2
  have HF := Lib.hid hf
  have HBL := Lib.hid hbl
  have HC := Lib.hid hc
  have hp := cell_lt hc
  obtain ⟨ks, hks⟩ : ∃ x, t.kids = x := ⟨_, rfl⟩
  have HFK : Hid (∀ c ∈ ks, GFit c) := by have := HF.out.parts.2.2.2.2.2.2; rw [hks] at this; exact this
  have HP : Hid (1 + gpartss ks ≤ m + 1) := by cases t; subst hks; exact hm
  have hkl : ks.length ≤ maxLen := by rw [← hks]; exact hf.kidsLen
  unfold maxLen at hkl
  have HKS := Lib.hid hks
  rw [hks] at HK hsh ⊢
  obtain ⟨L, hL⟩ : ∃ x, ks.length = x := ⟨_, rfl⟩
  have HL := Lib.hid hL
  rw [hL] at HK hkl hsh ⊢
  clear hks hL
  go_enter Tryd.func72, Tryd.ntmps72
  go_wp2_with fail
  obtain ⟨W, hW⟩ : ∃ W, (w.setCell ⟨p, 0, none⟩ (.int .i64 (left - 1))).alloc (.cells #[.int .i64 t.kind, .string ⟨t.frm.toArray⟩, .string ⟨t.rcv.toArray⟩, .int .i64 t.sort, .string ⟨t.name.toArray⟩, .slice A0 t.labels.length p0, .slice A L cap] 52) = W := ⟨_, rfl⟩
  have hl1 : Left W p (left - 1) := by subst hW; exact ((⟨hc, hfr⟩ : Left w p left).set (left - 1)).keep ((Below.refl _ _).alloc (Nat.le_refl _) _)
  have hgW : w.grownBy W (some p) := by subst hW; exact (grown_set w p _).trans (World.grownBy_alloc _ _ _)
  have hTB : GBox W w.heap.size t (.slice A0 t.labels.length p0) (.slice A L cap) := by subst hW; exact ⟨by simp [go_sem], by simp [go_sem], by simp [go_sem], by simp [go_sem], by simp [go_sem], by simp [go_sem], by simp [go_sem], fun j => by simp [go_sem], by simp⟩
  try rw [hW]
  clear hW
  refine (gshaped_any t _ W (by have := HT.out.keep (D' := (· ≠ p)) (same_p hgW) (fun b h _ => h); rw [HKS.out, HL.out] at this; exact this) HF.out).mono ?_
  rw [HKS.out, HL.out, hsh]
  rintro e w1 ⟨rfl, hb1⟩
  have hl2 := hl1.keep hb1
  have hg1 := hgW.trans (grown_below hb1 _)
  have hTB1 := hTB.keep hb1 hTB.lt
  obtain ⟨t0, t1, t2, t3, t4, t5, t6, t7, t8⟩ := id hTB1
  clear hl1 hgW hTB hb1
  have HBV := HB.out.keep (D' := (· ≠ p)) (same_p hg1) (fun b h _ => h)
  go_wp2_with fail
  refine (contains_any HBV.is (by omega) t.name).mono ?_
  rw [hin]
  rintro e w1 ⟨rfl, rfl⟩
  go_wp2_with fail
  go_ret
  exact ⟨rfl, hg1, hl2.c, hl2.f⟩

set_option maxHeartbeats 2000000 in
theorem gcheck_v0 (m : Nat) (ih : ∀ (t : Gl) (v bv : Value) (bound : List Str) (p : Nat) (left : Int) (w : World), gparts t ≤ m → GlV (· ≠ p) w v t → GFit t → StrsD (· ≠ p) w bv bound → (∀ s ∈ bound, s.length ≤ maxLen) → 0 ≤ left → (bound.length : Int) + left ≤ 60 → w.cell? ⟨p, 0, none⟩ = some (.int .i64 left) → w.frozen? ⟨p, 0, none⟩ = false → GCheckSays t v bv bound p left w)
    (t : Gl) (v bv : Value) (bound : List Str) (p : Nat) (left : Int) (w : World) (hm : gparts t ≤ m + 1) (hv : GlV (· ≠ p) w v t) (hf : GFit t) (hbv : StrsD (· ≠ p) w bv bound) (hbl : ∀ s ∈ bound, s.length ≤ maxLen) (hl0 : 0 ≤ left) (hl : (bound.length : Int) + left ≤ 60) (hc : w.cell? ⟨p, 0, none⟩ = some (.int .i64 left)) (hfr : w.frozen? ⟨p, 0, none⟩ = false)
    (hans : gchk t bound left = gchkKids t.kids bound (left - 1)) (hpos : 1 ≤ left) (hsh : gShape t.kind t.frm t.rcv t.sort t.name t.labels t.kids.length = true) (h9 : (t.kind == 9) = true) (h8 : (t.kind == 8) = false) (hin : decide (t.name ∈ bound) = true) :
    GCheckSays t v bv bound p left w := by
  unfold GCheckSays
  rw [hans]
  clear hans
  have HT := Lib.hid hv
  have HB := Lib.hid hbv
  obtain ⟨lv, kv, rfl, h1, h2⟩ := hv
  have HK := Lib.hid h2
  obtain ⟨A0, p0, rfl, -, -⟩ := h1
  obtain ⟨A, cap, rfl, -, -⟩ := h2
  have HF := Lib.hid hf
  have HBL := Lib.hid hbl
  have HC := Lib.hid hc
  have hp := cell_lt hc
  obtain ⟨ks, hks⟩ : ∃ x, t.kids = x := ⟨_, rfl⟩
  have HFK : Hid (∀ c ∈ ks, GFit c) := by have := HF.out.parts.2.2.2.2.2.2; rw [hks] at this; exact this
  have HP : Hid (1 + gpartss ks ≤ m + 1) := by cases t; subst hks; exact hm
  have hkl : ks.length ≤ maxLen := by rw [← hks]; exact hf.kidsLen
  unfold maxLen at hkl
  have HKS := Lib.hid hks
  rw [hks] at HK hsh ⊢
  obtain ⟨L, hL⟩ : ∃ x, ks.length = x := ⟨_, rfl⟩
  have HL := Lib.hid hL
  rw [hL] at HK hkl hsh ⊢
  clear hks hL
  go_enter Tryd.func72, Tryd.ntmps72
  go_wp2_with fail
  obtain ⟨W, hW⟩ : ∃ W, (w.setCell ⟨p, 0, none⟩ (.int .i64 (left - 1))).alloc (.cells #[.int .i64 t.kind, .string ⟨t.frm.toArray⟩, .string ⟨t.rcv.toArray⟩, .int .i64 t.sort, .string ⟨t.name.toArray⟩, .slice A0 t.labels.length p0, .slice A L cap] 52) = W := ⟨_, rfl⟩
  have hl1 : Left W p (left - 1) := by subst hW; exact ((⟨hc, hfr⟩ : Left w p left).set (left - 1)).keep ((Below.refl _ _).alloc (Nat.le_refl _) _)
  have hgW : w.grownBy W (some p) := by subst hW; exact (grown_set w p _).trans (World.grownBy_alloc _ _ _)
  have hTB : GBox W w.heap.size t (.slice A0 t.labels.length p0) (.slice A L cap) := by subst hW; exact ⟨by simp [go_sem], by simp [go_sem], by simp [go_sem], by simp [go_sem], by simp [go_sem], by simp [go_sem], by simp [go_sem], fun j => by simp [go_sem], by simp⟩
  try rw [hW]
  clear hW
  refine (gshaped_any t _ W (by have := HT.out.keep (D' := (· ≠ p)) (same_p hgW) (fun b h _ => h); rw [HKS.out, HL.out] at this; exact this) HF.out).mono ?_
  rw [HKS.out, HL.out, hsh]
  rintro e w1 ⟨rfl, hb1⟩
  have hl2 := hl1.keep hb1
  have hg1 := hgW.trans (grown_below hb1 _)
  have hTB1 := hTB.keep hb1 hTB.lt
  obtain ⟨t0, t1, t2, t3, t4, t5, t6, t7, t8⟩ := id hTB1
  clear hl1 hgW hTB hb1
  have HBV := HB.out.keep (D' := (· ≠ p)) (same_p hg1) (fun b h _ => h)
  go_wp2_with fail
  refine (contains_any HBV.is (by omega) t.name).mono ?_
  rw [hin]
  rintro e w1 ⟨rfl, rfl⟩
  go_wp2_with fail
  go_loopw [63] (fun i wr => ∃ (k : Nat) (lk : Int), k ≤ L ∧ i = .int .i64 k ∧ 0 ≤ lk ∧ lk ≤ left - 1 ∧ Left wr p lk ∧ w.grownBy wr (some p) ∧ StrsD (· ≠ p) wr bv bound ∧ Hid (gchkKids ks bound (left - 1) = gchkKids (ks.drop k) bound lk)) (fun i _ => L - (intOf i).toNat)
  case atStart => exact ⟨0, left - 1, by omega, rfl, by omega, by omega, hl2, hg1, HBV, rfl⟩
  case round =>
    clear hl2 hg1 HBV hTB1 t0 t1 t2 t3 t4 t5 t6 t7 t8
    obtain ⟨k, lk, hk, rfl, hlk0, hlk1, hl2, hg1, HBV, hs⟩ := hrel
    by_cases hlt : k < L
    · obtain ⟨c, hc'⟩ : ∃ x, ks[k]? = some x := ⟨_, List.getElem?_eq_getElem (by rw [HL.out]; exact hlt)⟩
      have HC' := Lib.hid hc'
      obtain ⟨-, -, b, off, A1, n1, p1, A2, n2, p2, rfl, hbp, c0, c1, c2, c3, c4, c5, c6, hl', hk'⟩ := gkid_at (HK.out.keep (D' := (· ≠ p)) (same_p hg1) (fun b h _ => h)) hc'
      have HL' := Lib.hid hl'; have HK' := Lib.hid hk'; clear hl' hk' hc'
      have hcp : gparts c ≤ m := by have h1 := gparts_at (mem_of_at HC'.out); have h2 := HP.out; omega
      have hcf : GFit c := HFK.out c (mem_of_at HC'.out)
      obtain ⟨wa, hwa⟩ : ∃ y, wr.alloc (.cells #[.int .i64 c.kind, .string ⟨c.frm.toArray⟩, .string ⟨c.rcv.toArray⟩, .int .i64 c.sort, .string ⟨c.name.toArray⟩, .slice A1 n1 p1, .slice A2 n2 p2] 52) = y := ⟨_, rfl⟩
      have hba : Below wr.heap.size wr wa := by subst hwa; exact (Below.refl _ _).alloc (Nat.le_refl _) _
      have hla := hl2.keep hba
      have hga := hg1.trans (grown_below hba _)
      have hkb : GBox wa wr.heap.size c (.slice A1 n1 p1) (.slice A2 n2 p2) := by subst hwa; exact ⟨by simp [go_sem], by simp [go_sem], by simp [go_sem], by simp [go_sem], by simp [go_sem], by simp [go_sem], by simp [go_sem], fun j => by simp [go_sem], by simp⟩
      obtain ⟨k0, k1, k2, k3, k4, k5, k6, k7, k8⟩ := id hkb
      obtain ⟨R, hR⟩ : ∃ x, gchk c bound lk = x := ⟨_, rfl⟩
      have HR := Lib.hid hR
      have hstep := hs.out
      rw [gchkKids_drop HC'.out, hR] at hstep
      have hcall := ih c (.agg #[.int .i64 c.kind, .string ⟨c.frm.toArray⟩, .string ⟨c.rcv.toArray⟩, .int .i64 c.sort, .string ⟨c.name.toArray⟩, .slice A1 n1 p1, .slice A2 n2 p2]) bv bound p lk wa hcp ((glV_of HL'.out HK'.out).keep (Same.below hba) (fun b h _ => h)) hcf (HBV.keep (Same.below hba) (fun b h _ => h)) HBL.out hlk0 (by omega) hla.c hla.f
      unfold GCheckSays at hcall
      rw [hR] at hcall
      have HCALL := Lib.hid hcall
      clear hR hcall
      by_cases he : R.1 = 0
      · have hp2 : 0 ≤ R.2 ∧ R.2 ≤ lk := by
          have h1 := gchk_parts c bound lk (by rw [HR.out]; exact he)
          rw [HR.out] at h1
          omega
        rw [if_neg (by simpa using he)] at hstep
        have HST := Lib.hid hstep
        have hE : (R.1 != 0) = false := by rw [bne_eq_false_iff_eq]; exact he
        clear hstep hs he
        go_wp2_with fail
        try rw [hwa]
        clear hwa
        refine HCALL.out.mono ?_
        rintro e w2 ⟨rfl, hg2, hc2, hf2⟩
        go_wp2_with fail
        go_roundw
        case rel => exact ⟨k + 1, R.2, by omega, by go_num, hp2.1, by omega, ⟨hc2, hf2⟩, hga.trans hg2, (HBV.keep (Same.below hba) (fun b h _ => h)).keep (same_p hg2) (fun b h _ => h), HST⟩
        case measure => simp [intOf]; omega
      · rw [if_pos he] at hstep
        have HST := Lib.hid hstep
        have hE : (R.1 != 0) = true := by rw [bne_iff_ne]; exact he
        clear hstep hs he
        go_wp2_with fail
        try rw [hwa]
        clear hwa
        refine HCALL.out.mono ?_
        rintro e w2 ⟨rfl, hg2, hc2, hf2⟩
        go_wp2_with fail
        go_ret
        rw [HST.out]
        exact ⟨rfl, hga.trans hg2, hc2, hf2⟩
    · have hend := hs.out
      rw [List.drop_of_length_le (by rw [HL.out]; omega)] at hend
      have HE := Lib.hid hend
      clear hend hs
      go_wp2_with fail
      go_ret
      rw [HE.out]
      exact ⟨rfl, hg1, hl2.c, hl2.f⟩
end Go.Proofs.YtgnkncfnkjeinaaDoor
