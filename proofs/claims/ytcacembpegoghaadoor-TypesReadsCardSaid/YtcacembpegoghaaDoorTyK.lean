/-
  types.check answers 'chk'.
-/
import Derived.Test.YtcacembpegoghaaDoorTyD
import Derived.Test.YtcacembpegoghaaDoorHeld
import Derived.Test.YtcacembpegoghaaDoorTyS2
namespace Go.Proofs.YtcacembpegoghaaDoor
open Go.RowKit Go.Proofs

set_option maxRecDepth 100000
def CheckSays (t : Ty) (v bv : Value) (bound : List Str) (p : Nat) (left : Int) (w : World) : Prop :=
  Calls Tryd.prog 119 #[v, bv, .pointer (some ⟨p, 0, none⟩)] w fun e w' => e = .returned (.int .i64 (chk t bound left).1) ∧ w.grownBy w' (some p) ∧ w'.cell? ⟨p, 0, none⟩ = some (.int .i64 (chk t bound left).2) ∧ w'.frozen? ⟨p, 0, none⟩ = false

theorem grown_set (w : World) (p : Nat) (u : Value) : w.grownBy (w.setCell ⟨p, 0, none⟩ u) (some p) :=
  ⟨rfl, rfl, rfl, by rw [World.size_setCell]; exact Nat.le_refl _, fun b _ h => Below.heap_setCell w _ u b (fun e => h (by rw [e]))⟩
theorem grown_below {w w' : World} (h : Below w.heap.size w w') (row : Option Nat) : w.grownBy w' row := ⟨h.os, h.tape, h.output, h.size, fun b hl _ => h.block b hl⟩
theorem same_p {w w' : World} {p : Nat} (h : w.grownBy w' (some p)) : Same (· ≠ p) w w' := Same.grown h (fun b hb e => hb (by injection e))
/-- What stays while the budget's cell turns. -/
theorem VBox.grown {w w' : World} {b p : Nat} {t : Ty} {lv kv : Value} (h : VBox w b t lv kv) (hg : w.grownBy w' (some p)) (hb : b ≠ p) : VBox w' b t lv kv := by
  have hne : some b ≠ some p := fun e => hb (by injection e)
  have hc : ∀ j, w'.cell? ⟨b, j, none⟩ = w.cell? ⟨b, j, none⟩ := fun j => hg.cell_far ⟨b, j, none⟩ h.lt hne
  have hf : ∀ j, w'.frozen? ⟨b, j, none⟩ = w.frozen? ⟨b, j, none⟩ := fun j => hg.frozen_far ⟨b, j, none⟩ h.lt hne
  exact ⟨(hc 0).trans h.c0, (hc 1).trans h.c1, (hc 2).trans h.c2, (hc 3).trans h.c3, (hc 4).trans h.c4, fun j => (hf j).trans (h.fr j), Nat.lt_of_lt_of_le h.lt hg.size⟩
/-- The budget's cell. -/
structure Left (w : World) (p : Nat) (left : Int) : Prop where
  c : w.cell? ⟨p, 0, none⟩ = some (.int .i64 left)
  f : w.frozen? ⟨p, 0, none⟩ = false
theorem Left.lt {w : World} {p : Nat} {left : Int} (h : Left w p left) : p < w.heap.size := cell_lt h.c
theorem Left.keep {w w' : World} {p : Nat} {left : Int} (h : Left w p left) (hb : Below w.heap.size w w') : Left w' p left :=
  ⟨cell_keep h.c hb, (hb.frozen (p := ⟨p, 0, none⟩) h.lt).trans h.f⟩
theorem Left.set {w : World} {p : Nat} {left : Int} (h : Left w p left) (l' : Int) : Left (w.setCell ⟨p, 0, none⟩ (.int .i64 l')) p l' :=
  ⟨World.cell?_setCell_same' w _ _ (by rw [h.c]; rfl), by rw [World.frozen?_setCell]; exact h.f⟩

theorem VBox.far5 {w : World} {b q : Nat} {t : Ty} {lv kv : Value} (h : VBox w b t lv kv) (hq : q ≠ b) (x0 x1 x2 x3 x4 : Value) :
    VBox (((((w.setCell ⟨q, 0, none⟩ x0).setCell ⟨q, 1, none⟩ x1).setCell ⟨q, 2, none⟩ x2).setCell ⟨q, 3, none⟩ x3).setCell ⟨q, 4, none⟩ x4) b t lv kv := by
  have h0 := h.far (p := ⟨q, 0, none⟩) hq x0
  have h1 := h0.far (p := ⟨q, 1, none⟩) hq x1
  have h2 := h1.far (p := ⟨q, 2, none⟩) hq x2
  have h3 := h2.far (p := ⟨q, 3, none⟩) hq x3
  exact h3.far (p := ⟨q, 4, none⟩) hq x4
theorem Left.far {w : World} {p : Nat} {left : Int} (h : Left w p left) {a : Addr} (hq : a.block ≠ p) (x : Value) : Left (w.setCell a x) p left :=
  ⟨(World.cell?_setCell_far w a ⟨p, 0, none⟩ x hq).trans h.c, by rw [World.frozen?_setCell]; exact h.f⟩
theorem Left.far5 {w : World} {p q : Nat} {left : Int} (h : Left w p left) (hq : q ≠ p) (x0 x1 x2 x3 x4 : Value) :
    Left (((((w.setCell ⟨q, 0, none⟩ x0).setCell ⟨q, 1, none⟩ x1).setCell ⟨q, 2, none⟩ x2).setCell ⟨q, 3, none⟩ x3).setCell ⟨q, 4, none⟩ x4) p left := by
  have h0 := h.far (a := ⟨q, 0, none⟩) hq x0
  have h1 := h0.far (a := ⟨q, 1, none⟩) hq x1
  have h2 := h1.far (a := ⟨q, 2, none⟩) hq x2
  have h3 := h2.far (a := ⟨q, 3, none⟩) hq x3
  exact h3.far (a := ⟨q, 4, none⟩) hq x4
theorem grown_far {w wr : World} {row : Option Nat} (h : w.grownBy wr row) {a : Addr} (hq : w.heap.size ≤ a.block) (x : Value) : w.grownBy (wr.setCell a x) row := by
  refine ⟨h.os, h.tape, h.output, by rw [World.size_setCell]; exact h.size, fun b hl hne => ?_⟩
  rw [Below.heap_setCell wr a x b (by omega)]
  exact h.block b hl hne
theorem grown_fill {w wr : World} {row : Option Nat} {q : Nat} (h : w.grownBy wr row) (hq : w.heap.size ≤ q) (x0 x1 x2 x3 x4 : Value) :
    w.grownBy (((((wr.setCell ⟨q, 0, none⟩ x0).setCell ⟨q, 1, none⟩ x1).setCell ⟨q, 2, none⟩ x2).setCell ⟨q, 3, none⟩ x3).setCell ⟨q, 4, none⟩ x4) row := by
  have h0 := grown_far h (a := ⟨q, 0, none⟩) hq x0
  have h1 := grown_far h0 (a := ⟨q, 1, none⟩) hq x1
  have h2 := grown_far h1 (a := ⟨q, 2, none⟩) hq x2
  have h3 := grown_far h2 (a := ⟨q, 3, none⟩) hq x3
  exact grown_far h3 (a := ⟨q, 4, none⟩) hq x4
theorem chkKids_drop {ks : List Ty} {b : List Str} {l : Int} {k : Nat} {c : Ty} (h : ks[k]? = some c) : chkKids (ks.drop k) b l = if (chk c b l).1 ≠ 0 then chk c b l else chkKids (ks.drop (k + 1)) b (chk c b l).2 := by
  obtain ⟨h1, h2⟩ := List.getElem?_eq_some_iff.1 h
  rw [List.drop_eq_getElem_cons h1, h2]
  rfl

set_option maxHeartbeats 2000000 in
theorem check_o (m : Nat) (ih : ∀ (t : Ty) (v bv : Value) (bound : List Str) (p : Nat) (left : Int) (w : World), parts t ≤ m → TyD (· ≠ p) w v t → Fit t → StrsD (· ≠ p) w bv bound → (∀ s ∈ bound, s.length ≤ maxLen) → 0 ≤ left → (bound.length : Int) + left ≤ 60 → w.cell? ⟨p, 0, none⟩ = some (.int .i64 left) → w.frozen? ⟨p, 0, none⟩ = false → CheckSays t v bv bound p left w)
    (t : Ty) (v bv : Value) (bound : List Str) (p : Nat) (left : Int) (w : World) (hm : parts t ≤ m + 1) (hv : TyD (· ≠ p) w v t) (hf : Fit t) (hbv : StrsD (· ≠ p) w bv bound) (hbl : ∀ s ∈ bound, s.length ≤ maxLen) (hl0 : 0 ≤ left) (hl : (bound.length : Int) + left ≤ 60) (hc : w.cell? ⟨p, 0, none⟩ = some (.int .i64 left)) (hfr : w.frozen? ⟨p, 0, none⟩ = false)
    (hans : chk t bound left = chkKids t.kids bound (left - 1)) (hpos : 1 ≤ left) (hsh : shapeOk t.kind t.sort t.name t.labels t.kids.length = true) (h9 : (t.kind == 9) = false) (h8 : (t.kind == 8) = false) :
    CheckSays t v bv bound p left w := by
  unfold CheckSays
  rw [hans]
  clear hans
  have HT := Lib.hid hv
  have HB := Lib.hid hbv
  obtain ⟨lv, kv, rfl, h1, h2⟩ := hv
  have HK := Lib.hid h2
  obtain ⟨A0, p0, rfl, -, -⟩ := h1
  obtain ⟨A, cap, rfl, -, -⟩ := h2
  have HF := Lib.hid hf
  have HBL := Lib.hid hbl
  have HC := Lib.hid hc
  have hp := cell_lt hc
  obtain ⟨ks, hks⟩ : ∃ x, t.kids = x := ⟨_, rfl⟩
  have HFK : Hid (∀ c ∈ ks, Fit c) := by have := HF.out.parts.2.2.2.2; rw [hks] at this; exact this
  have HP : Hid (1 + partss ks ≤ m + 1) := by cases t; subst hks; exact hm
  have hkl : ks.length ≤ maxLen := by rw [← hks]; exact hf.parts.2.2.2.1
  unfold maxLen at hkl
  have HKS := Lib.hid hks
  rw [hks] at HK hsh ⊢
  obtain ⟨L, hL⟩ : ∃ x, ks.length = x := ⟨_, rfl⟩
  have HL := Lib.hid hL
  rw [hL] at HK hkl hsh ⊢
  clear hks hL
  go_enter Tryd.func119, Tryd.ntmps119
  go_wp2_with fail
  obtain ⟨W, hW⟩ : ∃ W, (w.setCell ⟨p, 0, none⟩ (.int .i64 (left - 1))).alloc (.cells #[.int .i64 t.kind, .int .i64 t.sort, .string ⟨t.name.toArray⟩, .slice A0 t.labels.length p0, .slice A L cap] 51) = W := ⟨_, rfl⟩
  have hl1 : Left W p (left - 1) := by subst hW; exact ((⟨hc, hfr⟩ : Left w p left).set (left - 1)).keep ((Below.refl _ _).alloc (Nat.le_refl _) _)
  have hgW : w.grownBy W (some p) := by subst hW; exact (grown_set w p _).trans (World.grownBy_alloc _ _ _)
  have hTB : VBox W w.heap.size t (.slice A0 t.labels.length p0) (.slice A L cap) := by subst hW; exact ⟨by simp [go_sem], by simp [go_sem], by simp [go_sem], by simp [go_sem], by simp [go_sem], fun j => by simp [go_sem], by simp⟩
  try rw [hW]
  clear hW
  refine (shaped_any t _ W (by have := (HT.out.keep (D' := (· ≠ p)) (same_p hgW) (fun b h _ => h)).is; rw [HKS.out, HL.out] at this; exact this) HF.out).mono ?_
  rw [HKS.out, HL.out, hsh]
  rintro e w1 ⟨rfl, hb1⟩
  have hl2 := hl1.keep hb1
  have hg1 := hgW.trans (grown_below hb1 _)
  have hTB1 := hTB.keep hb1 hTB.lt
  obtain ⟨t0, t1, t2, t3, t4, t5, t6⟩ := id hTB1
  clear hl1 hgW hTB hb1
  have HBV := HB.out.keep (D' := (· ≠ p)) (same_p hg1) (fun b h _ => h)
  go_wp2_with fail
  go_loopw [63] (fun i wr => ∃ (k : Nat) (lk : Int), k ≤ L ∧ i = .int .i64 k ∧ 0 ≤ lk ∧ lk ≤ left - 1 ∧ Left wr p lk ∧ w.grownBy wr (some p) ∧ StrsD (· ≠ p) wr bv bound ∧ Hid (chkKids ks bound (left - 1) = chkKids (ks.drop k) bound lk)) (fun i _ => L - (intOf i).toNat)
  case atStart => exact ⟨0, left - 1, by omega, rfl, by omega, by omega, hl2, hg1, HBV, rfl⟩
  case round =>
    clear hl2 hg1 HBV hTB1 t0 t1 t2 t3 t4 t5 t6
    obtain ⟨k, lk, hk, rfl, hlk0, hlk1, hl2, hg1, HBV, hs⟩ := hrel
    by_cases hlt : k < L
    · obtain ⟨c, hc'⟩ : ∃ x, ks[k]? = some x := ⟨_, List.getElem?_eq_getElem (by rw [HL.out]; exact hlt)⟩
      have HC' := Lib.hid hc'
      obtain ⟨-, -, b, off, A1, n1, p1, A2, n2, p2, rfl, hbp, c0, c1, c2, c3, c4, hl', hk'⟩ := kid_atD (HK.out.keep (D' := (· ≠ p)) (same_p hg1) (fun b h _ => h)) hc'
      have HL' := Lib.hid hl'; have HK' := Lib.hid hk'; clear hl' hk' hc'
      have hcp : parts c ≤ m := by have h1 := parts_at (mem_of_at HC'.out); have h2 := HP.out; omega
      have hcf : Fit c := HFK.out c (mem_of_at HC'.out)
      obtain ⟨wa, hwa⟩ : ∃ y, wr.alloc (.cells #[.int .i64 c.kind, .int .i64 c.sort, .string ⟨c.name.toArray⟩, .slice A1 n1 p1, .slice A2 n2 p2] 51) = y := ⟨_, rfl⟩
      have hba : Below wr.heap.size wr wa := by subst hwa; exact (Below.refl _ _).alloc (Nat.le_refl _) _
      have hla := hl2.keep hba
      have hga := hg1.trans (grown_below hba _)
      have hkb : VBox wa wr.heap.size c (.slice A1 n1 p1) (.slice A2 n2 p2) := by subst hwa; exact ⟨by simp [go_sem], by simp [go_sem], by simp [go_sem], by simp [go_sem], by simp [go_sem], fun j => by simp [go_sem], by simp⟩
      obtain ⟨k0, k1, k2, k3, k4, k5, k6⟩ := id hkb
      obtain ⟨R, hR⟩ : ∃ x, chk c bound lk = x := ⟨_, rfl⟩
      have HR := Lib.hid hR
      have hstep := hs.out
      rw [chkKids_drop HC'.out, hR] at hstep
      have hcall := ih c (.agg #[.int .i64 c.kind, .int .i64 c.sort, .string ⟨c.name.toArray⟩, .slice A1 n1 p1, .slice A2 n2 p2]) bv bound p lk wa hcp ((tyD_of HL'.out HK'.out).keep (Same.below hba) (fun b h _ => h)) hcf (HBV.keep (Same.below hba) (fun b h _ => h)) HBL.out hlk0 (by omega) hla.c hla.f
      unfold CheckSays at hcall
      rw [hR] at hcall
      have HCALL := Lib.hid hcall
      clear hR hcall
      by_cases he : R.1 = 0
      · have hp2 : 0 ≤ R.2 ∧ R.2 ≤ lk := by
          have h1 := chk_parts c bound lk (by rw [HR.out]; exact he)
          rw [HR.out] at h1
          omega
        rw [if_neg (by simpa using he)] at hstep
        have HST := Lib.hid hstep
        have hE : (R.1 != 0) = false := by rw [bne_eq_false_iff_eq]; exact he
        clear hstep hs he
        go_wp2_with fail
        try rw [hwa]
        clear hwa
        refine HCALL.out.mono ?_
        rintro e w2 ⟨rfl, hg2, hc2, hf2⟩
        go_wp2_with fail
        go_roundw
        case rel => exact ⟨k + 1, R.2, by omega, by go_num, hp2.1, by omega, ⟨hc2, hf2⟩, hga.trans hg2, (HBV.keep (Same.below hba) (fun b h _ => h)).keep (same_p hg2) (fun b h _ => h), HST⟩
        case measure => simp [intOf]; omega
      · rw [if_pos he] at hstep
        have HST := Lib.hid hstep
        have hE : (R.1 != 0) = true := by rw [bne_iff_ne]; exact he
        clear hstep hs he
        go_wp2_with fail
        try rw [hwa]
        clear hwa
        refine HCALL.out.mono ?_
        rintro e w2 ⟨rfl, hg2, hc2, hf2⟩
        go_wp2_with fail
        go_ret
        rw [HST.out]
        exact ⟨rfl, hga.trans hg2, hc2, hf2⟩
    · have hend := hs.out
      rw [List.drop_of_length_le (by rw [HL.out]; omega)] at hend
      have HE := Lib.hid hend
      clear hend hs
      go_wp2_with fail
      go_ret
      rw [HE.out]
      exact ⟨rfl, hg1, hl2.c, hl2.f⟩
end Go.Proofs.YtcacembpegoghaaDoor
