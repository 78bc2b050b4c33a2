/-
  Big numbers: NewInt, Text and String at numbers of 64 bits: the decimal digits.
  Words of big numbers: how many bits, one bit; Uint64, Int64, IsInt64.
  strings.Builder at this dump (whose copyCheck ends in a refusal where a builder would be copied): copyCheck, WriteByte, WriteString.
  The program's writer of values: escaped, Write.
-/
import Derived.Test.YtpidjanngbaiiaaGreatDoorM5
import Derived.Laws.IdiomStrings
import Derived.Test.YtpidjanngbaiiaaGreatDoorM2
import Derived.Shelf.Strings.Builder1
import Derived.Test.YtpidjanngbaiiaaGreatDoorM3
import Derived.Lib.AppendIntMem
namespace Go.Proofs.YtpidjanngbaiiaaGreatDoor
open Go.RowKit Go.Proofs

set_option maxRecDepth 100000
structure BigAt (w : World) (p : Nat) (n : Int) : Prop where
 c0 : w.cell? ⟨p, 0, none⟩ = some (.bool (decide (n < 0)))
 ex : ∃ v, w.cell? ⟨p, 1, none⟩ = some v ∧ Wds All w v (wordsOf n.natAbs)
theorem BigAt.below {w w' : World} {p : Nat} {n : Int} (h : BigAt w p n) (hb : Below w.heap.size w w') : BigAt w' p n := by
 obtain ⟨v, h1, h2⟩ := h.ex
 exact ⟨cell_keep h.c0 hb, v, cell_keep h1 hb, h2.below hb⟩
theorem byte_row {w : World} {base : Nat} {E : TypeId} {v : Value} {l : List UInt8} (h : w.ownsRow base E 1 v l.length (Lib.byteCells l)) (h0 : 1 ≤ l.length) : ∃ g cap, v = .slice (some ⟨g, 0, none⟩) l.length cap ∧ base ≤ g ∧ l.length ≤ cap ∧ (∀ i x, l[i]? = some x → w.cell? ⟨g, i, none⟩ = some (.int .u8 (x.toNat : Int))) ∧ (∀ j, w.frozen? ⟨g, j, none⟩ = false) := by
 have hcells := fun g => h.cells (g := g)
 rcases h.2 with ⟨rfl, h1⟩ | ⟨g, cap, cur, rfl, hg, hb, hn, _⟩
 ·omega
 ·refine ⟨g, cap, rfl, hg, hn, fun i x hi => ?_, fun j => Lib.frozen_of_heap hb j⟩
  have := hcells g rfl i (.int .u8 (x.toNat : Int)) (by simp [Lib.byteCells, hi])
  rw [Go.WideShapes.add_plain, Nat.zero_add] at this
  exact this
theorem rt_u8 : RowType Tryz.prog 62 5 1 1 := .mk' (z := .int .u8 0) Tryz.underlying62 (by kernel_rfl) rfl (by decide)
theorem u8_small {r : Nat} (h : r < 10) : ((UInt8.ofNat (48 + r)).toNat : Int) = 48 + (r : Int) := by
 rw [UInt8.toNat_ofNat']
 omega
set_option maxHeartbeats 4000000 in
theorem bigText_any (p : Nat) (n0 : Int) (w : World) (h : BigAt w p n0) (hn : n0.natAbs < 100000000000000000000) :
  Calls Tryz.prog 157 #[.pointer (some ⟨p, 0, none⟩), .int .i64 10] w fun e w' => e = .returned (.string ⟨(Lib.itoa n0).toArray⟩) ∧ Below w.heap.size w w' := by
 obtain ⟨c0, v, c1, hv⟩ := h
 obtain ⟨NG, hNG⟩ : ∃ b, decide (n0 < 0) = b := ⟨_, rfl⟩
 rw [hNG] at c0
 obtain ⟨N, hN⟩ : ∃ N, n0.natAbs = N := ⟨_, rfl⟩
 rw [hN] at hv hn
 have hlen : (wordsOf N).length ≤ 3 := wordsOf_len (by omega)
 obtain ⟨A, cap, rfl, hc, hz, h3⟩ := id hv
 have HV := Lib.hid hv
 clear h3 hv
 by_cases h0 : N = 0
 ·have hn0 : n0 = 0 := by omega
  have hl0 : (wordsOf N).length = 0 := by rw [wordsOf_nil.2 h0]; rfl
  rw [hl0] at c1
  subst hn0
  clear hl0 h0 hN hNG hlen hc hz HV
  go_enter Tryz.func157, Tryz.ntmps157
  go_wp2_with fail
  go_ret
  exact ⟨by rw [itoa_zero]; rfl, Below.refl _ _⟩
 ·have hpos : 0 < (wordsOf N).length := List.length_pos_iff.2 (fun e => h0 (wordsOf_nil.1 e))
  obtain ⟨L, hL⟩ : ∃ L, (wordsOf N).length = L := ⟨_, rfl⟩
  rw [hL] at c1 hpos hlen
  have HL := Lib.hid hL
  have HNN := Lib.hid hN
  have HNG := Lib.hid hNG
  have H0 := Lib.hid h0
  have hdl : (digs N).length ≤ 20 := digs_len (by omega)
  have HDL := Lib.hid hdl
  rw [hL] at HV
  clear hL hN hNG h0 hdl hc hz
  go_enter Tryz.func157, Tryz.ntmps157
  go_wp2_with fail
  refine (btwin_any All _ (wordsOf N) w HV.out (by have := HL.out; omega)).mono ?_
  rintro e w1 ⟨⟨v1, rfl, hv1⟩, hb1⟩
  have k0 := cell_keep c0 hb1
  have hszw : w.heap.size ≤ w1.heap.size := hb1.size
  go_wp2_with fail
  go_loopg [5, 6] N (fun gm bv av wr => ∃ (m : Nat) (dg : List UInt8), m ≤ gm ∧ m ≤ N ∧ Hid (digs N = dg ++ digs m) ∧ wr.ownsRow w1.heap.size 5 1 bv dg.length (Lib.byteCells dg) ∧ Wds (fun k => some k ≠ bv.ownBlock) wr av (wordsOf m) ∧ wr.cell? ⟨p, 0, none⟩ = some (.bool NG) ∧ Below w.heap.size w wr ∧ w1.heap.size ≤ wr.heap.size)
  case atStart => exact ⟨N, [], Nat.le_refl _, Nat.le_refl _, rfl, World.ownsRow_nil _ _ _ _, hv1.keep (Same.refl _ _) (fun b _ _ => by simp [Value.ownBlock]), k0, hb1, Nat.le_refl _⟩
  case round =>
   clear k0 hv1
   obtain ⟨m, dg, hmg, hmN, hdg, hown, hav, k0, hbw, hsz⟩ := hrel
   have HAV := Lib.hid hav
   obtain ⟨A2, c2, rfl, hc2, hz2, -⟩ := hav
   have hdgl : dg.length ≤ 20 := by have := HDL.out; rw [hdg.out, List.length_append] at this; omega
   by_cases hm : m = 0
   ·have hw0 : (wordsOf m).length = 0 := by rw [wordsOf_nil.2 hm]; rfl
    rw [hw0]
    have hdgN : digs N = dg := by have := hdg.out; rw [hm] at this; rw [this]; simp [digs]
    have HDG := Lib.hid hdgN
    have hdg1 : 1 ≤ dg.length := by rw [← hdgN, show digs N = UInt8.ofNat (48 + N % 10) :: digs (N / 10) by rw [digs, dif_neg H0.out]]; simp
    obtain ⟨A3, c3, rfl⟩ := own_form hown
    clear hw0 hdg hm hc2 hz2 HAV hdgN
    cases NG with
    | false =>
     have HANS : Hid (Lib.itoa n0 = dg.reverse) := by
      have h1 := of_decide_eq_false HNG.out
      show _ = _
      rw [← itoa_text n0 (by have := HNN.out; have := H0.out; omega), if_neg h1, HNN.out, HDG.out]
     have hFL : 1 ≤ dg.length ∧ dg.length ≤ 25 := ⟨hdg1, by omega⟩
     have hown' := hown
     obtain ⟨g, cap, hsl, hg0, hcap, hcells, hfz⟩ := byte_row hown' hFL.1
     obtain ⟨hA3, hc3⟩ : A3 = some ⟨g, 0, none⟩ ∧ c3 = cap := by injection hsl with e1 _ e3; exact ⟨e1, e3⟩
     subst hA3
     subst hc3
     have hg0 : w.heap.size ≤ g := Nat.le_trans hszw hg0
     have HFZ := Lib.hid hfz
     have HCL := Lib.hid hcells
     clear hown hown' hfz hcells hsl
     obtain ⟨n, hn⟩ : ∃ n, dg.length = n := ⟨_, rfl⟩
     have HN := Lib.hid hn
     rw [hn]
     have hn25 : 1 ≤ n ∧ n ≤ 25 := by rw [← hn]; exact hFL
     obtain ⟨hn1, hn2⟩ := hn25
     clear hn
     go_wp2_with fail
     go_loopw [8, 9] (fun i j wr => ∃ k : Nat, 2 * k ≤ n + 1 ∧ i = .int .i64 k ∧ j = .int .i64 ((n : Int) - 1 - k) ∧ Hid (∀ m : Nat, m < n → wr.cell? ⟨g, m, none⟩ = some (.int .u8 ((if m < k ∨ n ≤ m + k then (dg.getD (n - 1 - m) 0) else dg.getD m 0).toNat : Int))) ∧ Hid (∀ j, wr.frozen? ⟨g, j, none⟩ = false) ∧ Below w.heap.size w wr) (fun _ j _ => ((intOf j) + 1).toNat)
     case atStart =>
      refine ⟨0, by omega, rfl, by first | (simp; done) | (congr 1; have := HN.out; simp at this; omega), fun m hm => ?_, HFZ, hbw⟩
      have hm' : m < dg.length := by have := HN.out; omega
      rw [if_neg (by omega)]
      have := HCL.out m dg[m] (List.getElem?_eq_getElem hm')
      rw [this]
      rw [List.getD, List.getElem?_eq_getElem hm']
      rfl
     case round =>
      clear HFZ HCL hbw
      obtain ⟨k, hk, rfl, rfl, hcl, hfz, hbw⟩ := hrel
      by_cases hlt : 2 * k + 1 < n
      ·obtain ⟨J, hJ⟩ : ∃ J : Nat, J + k + 1 = n := ⟨n - 1 - k, by omega⟩
       rw [show ((n : Int) - 1 - k) = (J : Int) by omega]
       have hkJ : (k : Int) < (J : Int) := by omega
       have q0 := hcl.out k (by omega)
       rw [if_neg (by omega)] at q0
       have q1 := hcl.out J (by omega)
       rw [if_neg (by omega)] at q1
       obtain ⟨xk, hxk⟩ : ∃ x, dg.getD k 0 = x := ⟨_, rfl⟩
       obtain ⟨xJ, hxJ⟩ : ∃ x, dg.getD J 0 = x := ⟨_, rfl⟩
       rw [hxk] at q0
       rw [hxJ] at q1
       have HXK := Lib.hid hxk
       have HXJ := Lib.hid hxJ
       have q2 := hfz.out k
       have q3 := hfz.out J
       have hne : (⟨g, k, none⟩ : Addr) ≠ ⟨g, J, none⟩ := fun e => by injection e with _ e; omega
       have q5 : (wr.setCell ⟨g, k, none⟩ (.int .u8 (xJ.toNat : Int))).cell? ⟨g, J, none⟩ = some (.int .u8 (xJ.toNat : Int)) := (World.cell?_setCell_other _ _ _ _ hne).trans q1
       have hJn : J < n := by omega
       have HJ := Lib.hid hJ
       clear hJ hxk hxJ
       go_wp2_with fail
       go_roundw
       case rel =>
        have hJ := HJ.out
        refine ⟨k + 1, by omega, by go_num, by congr 1; omega, fun m hm => ?_, fun j => by rw [World.frozen?_setCell, World.frozen?_setCell]; exact hfz.out j, (hbw.setCell (p := ⟨g, k, none⟩) hg0 _).setCell (p := ⟨g, J, none⟩) hg0 _⟩
        by_cases h1 : m = J
        ·subst h1
         rw [World.cell?_setCell_same' _ _ _ (by rw [q5]; rfl), if_pos (by omega), show n - 1 - m = k by omega, HXK.out]
        ·rw [World.cell?_setCell_other _ _ _ _ (fun e => h1 (by injection e with _ e; exact e.symm))]
         by_cases h2 : m = k
         ·subst h2
          rw [World.cell?_setCell_same' _ _ _ (by rw [q0]; rfl), if_pos (by omega), show n - 1 - m = J by omega, HXJ.out]
         ·rw [World.cell?_setCell_other _ _ _ _ (fun e => h2 (by injection e with _ e; exact e.symm)), hcl.out m hm]
          by_cases h3 : m < k ∨ n ≤ m + k
          ·rw [if_pos h3, if_pos (by omega)]
          ·rw [if_neg h3, if_neg (by omega)]
       case measure => simp [intOf] <;> omega
      ·have hkJ : ¬ (k : Int) < (n : Int) - 1 - k := by omega
       have hrl : dg.reverse.length = n := by rw [List.length_reverse]; exact HN.out
       have hconv := run_convert_bytes_back (P := Tryz.prog) wr 62 9 5 ⟨g, 0, none⟩ c3 dg.reverse Tryz.underlying62 Tryz.underlying5 Tryz.underlying9 (fun j hj => by
        rw [Go.WideShapes.add_plain, Nat.zero_add]
        have hjn : j < n := by omega
        rw [hcl.out j hjn]
        have hfl := HN.out
        have e : dg.reverse[j] = dg.getD (n - 1 - j) 0 := by
         rw [List.getElem_reverse]
         simp only [hfl, List.getD, List.getElem?_eq_getElem (show n - 1 - j < dg.length by omega), Option.getD_some]
        rw [e]
        by_cases h3 : j < k ∨ n ≤ j + k
        ·rw [if_pos h3]
        ·rw [if_neg h3, show n - 1 - j = j by omega])
       rw [hrl] at hconv
       clear hcl hfz hrl
       go_wp2_with fail
       go_ret
       exact ⟨by rw [HANS.out]; first | rfl | (rw [List.reverse_append]; rfl), hbw⟩
    | true =>
     have HANS : Hid (Lib.itoa n0 = (dg ++ [45]).reverse) := by
      have h1 := of_decide_eq_true HNG.out
      show _ = _
      rw [← itoa_text n0 (by have := HNN.out; have := H0.out; omega), if_pos h1, HNN.out, HDG.out]
     have hFL : 1 ≤ (dg ++ [45]).length ∧ (dg ++ [45]).length ≤ 25 := by rw [List.length_append]; simp; omega
     go_wp2_with (at_builtin; go_must (refine wpList_app1 rt_u8 wr (.int .u8 45) rfl (.tmp 53) (.tmp 54) rfl w1.heap.size (.slice A3 dg.length c3) dg.length (Lib.byteCells dg) rfl hown rfl rfl (by omega) (by omega) hsz ?_; intro v4 w4 o1 o2 o3 o4; obtain ⟨A4, c4, rfl⟩ := own_form o1))
     have hlap : dg.length + 1 = (dg ++ [45]).length := by rw [List.length_append]; rfl
     have hown' : w4.ownsRow w1.heap.size 5 1 (.slice A4 (dg ++ [45]).length c4) (dg ++ [45]).length (Lib.byteCells (dg ++ [45])) := by
      rw [← hlap]
      have e : Lib.byteCells (dg ++ [45]) = Lib.byteCells dg ++ [.int .u8 45] := by simp [Lib.byteCells]
      rw [e]
      exact o1
     have hbw4 : Below w.heap.size w w4 := hbw.trans (o4.mono hszw)
     rw [hlap]
     clear o1 o2 o3 o4 hbw k0 hlap hsz
     obtain ⟨g, cap, hsl, hg0, hcap, hcells, hfz⟩ := byte_row hown' hFL.1
     obtain ⟨hA3, hc3⟩ : A4 = some ⟨g, 0, none⟩ ∧ c4 = cap := by injection hsl with e1 _ e3; exact ⟨e1, e3⟩
     subst hA3
     subst hc3
     have hg0 : w.heap.size ≤ g := Nat.le_trans hszw hg0
     have HFZ := Lib.hid hfz
     have HCL := Lib.hid hcells
     clear hown hown' hfz hcells hsl
     obtain ⟨n, hn⟩ : ∃ n, (dg ++ [45]).length = n := ⟨_, rfl⟩
     have HN := Lib.hid hn
     rw [hn]
     have hn25 : 1 ≤ n ∧ n ≤ 25 := by rw [← hn]; exact hFL
     obtain ⟨hn1, hn2⟩ := hn25
     clear hn
     go_wp2_with fail
     go_loopw [8, 9] (fun i j wr => ∃ k : Nat, 2 * k ≤ n + 1 ∧ i = .int .i64 k ∧ j = .int .i64 ((n : Int) - 1 - k) ∧ Hid (∀ m : Nat, m < n → wr.cell? ⟨g, m, none⟩ = some (.int .u8 ((if m < k ∨ n ≤ m + k then ((dg ++ [45]).getD (n - 1 - m) 0) else (dg ++ [45]).getD m 0).toNat : Int))) ∧ Hid (∀ j, wr.frozen? ⟨g, j, none⟩ = false) ∧ Below w.heap.size w wr) (fun _ j _ => ((intOf j) + 1).toNat)
     case atStart =>
      refine ⟨0, by omega, rfl, by first | (simp; done) | (congr 1; have := HN.out; simp at this; omega), fun m hm => ?_, HFZ, hbw4⟩
      have hm' : m < (dg ++ [45]).length := by have := HN.out; omega
      rw [if_neg (by omega)]
      have := HCL.out m (dg ++ [45])[m] (List.getElem?_eq_getElem hm')
      rw [this]
      rw [List.getD, List.getElem?_eq_getElem hm']
      rfl
     case round =>
      clear HFZ HCL hbw4
      obtain ⟨k, hk, rfl, rfl, hcl, hfz, hbw⟩ := hrel
      by_cases hlt : 2 * k + 1 < n
      ·obtain ⟨J, hJ⟩ : ∃ J : Nat, J + k + 1 = n := ⟨n - 1 - k, by omega⟩
       rw [show ((n : Int) - 1 - k) = (J : Int) by omega]
       have hkJ : (k : Int) < (J : Int) := by omega
       have q0 := hcl.out k (by omega)
       rw [if_neg (by omega)] at q0
       have q1 := hcl.out J (by omega)
       rw [if_neg (by omega)] at q1
       obtain ⟨xk, hxk⟩ : ∃ x, (dg ++ [45]).getD k 0 = x := ⟨_, rfl⟩
       obtain ⟨xJ, hxJ⟩ : ∃ x, (dg ++ [45]).getD J 0 = x := ⟨_, rfl⟩
       rw [hxk] at q0
       rw [hxJ] at q1
       have HXK := Lib.hid hxk
       have HXJ := Lib.hid hxJ
       have q2 := hfz.out k
       have q3 := hfz.out J
       have hne : (⟨g, k, none⟩ : Addr) ≠ ⟨g, J, none⟩ := fun e => by injection e with _ e; omega
       have q5 : (wr.setCell ⟨g, k, none⟩ (.int .u8 (xJ.toNat : Int))).cell? ⟨g, J, none⟩ = some (.int .u8 (xJ.toNat : Int)) := (World.cell?_setCell_other _ _ _ _ hne).trans q1
       have hJn : J < n := by omega
       have HJ := Lib.hid hJ
       clear hJ hxk hxJ
       go_wp2_with fail
       go_roundw
       case rel =>
        have hJ := HJ.out
        refine ⟨k + 1, by omega, by go_num, by congr 1; omega, fun m hm => ?_, fun j => by rw [World.frozen?_setCell, World.frozen?_setCell]; exact hfz.out j, (hbw.setCell (p := ⟨g, k, none⟩) hg0 _).setCell (p := ⟨g, J, none⟩) hg0 _⟩
        by_cases h1 : m = J
        ·subst h1
         rw [World.cell?_setCell_same' _ _ _ (by rw [q5]; rfl), if_pos (by omega), show n - 1 - m = k by omega, HXK.out]
        ·rw [World.cell?_setCell_other _ _ _ _ (fun e => h1 (by injection e with _ e; exact e.symm))]
         by_cases h2 : m = k
         ·subst h2
          rw [World.cell?_setCell_same' _ _ _ (by rw [q0]; rfl), if_pos (by omega), show n - 1 - m = J by omega, HXJ.out]
         ·rw [World.cell?_setCell_other _ _ _ _ (fun e => h2 (by injection e with _ e; exact e.symm)), hcl.out m hm]
          by_cases h3 : m < k ∨ n ≤ m + k
          ·rw [if_pos h3, if_pos (by omega)]
          ·rw [if_neg h3, if_neg (by omega)]
       case measure => simp [intOf] <;> omega
      ·have hkJ : ¬ (k : Int) < (n : Int) - 1 - k := by omega
       have hrl : (dg ++ [45]).reverse.length = n := by rw [List.length_reverse]; exact HN.out
       have hconv := run_convert_bytes_back (P := Tryz.prog) wr 62 9 5 ⟨g, 0, none⟩ c4 (dg ++ [45]).reverse Tryz.underlying62 Tryz.underlying5 Tryz.underlying9 (fun j hj => by
        rw [Go.WideShapes.add_plain, Nat.zero_add]
        have hjn : j < n := by omega
        rw [hcl.out j hjn]
        have hfl := HN.out
        have e : (dg ++ [45]).reverse[j] = (dg ++ [45]).getD (n - 1 - j) 0 := by
         rw [List.getElem_reverse]
         simp only [hfl, List.getD, List.getElem?_eq_getElem (show n - 1 - j < (dg ++ [45]).length by omega), Option.getD_some]
        rw [e]
        by_cases h3 : j < k ∨ n ≤ j + k
        ·rw [if_pos h3]
        ·rw [if_neg h3, show n - 1 - j = j by omega])
       rw [hrl] at hconv
       clear hcl hfz hrl
       go_wp2_with fail
       go_ret
       exact ⟨by rw [HANS.out]; first | rfl | (rw [List.reverse_append]; rfl), hbw⟩
   ·have hwl : 0 < (wordsOf m).length := List.length_pos_iff.2 (fun e => hm (wordsOf_nil.1 e))
    have hwl2 : (wordsOf m).length ≤ 3 := wordsOf_len (by omega)
    obtain ⟨M, hM⟩ : ∃ M, (wordsOf m).length = M := ⟨_, rfl⟩
    have HM := Lib.hid hM
    have hdg' := hdg.out
    rw [show digs m = UInt8.ofNat (48 + m % 10) :: digs (m / 10) by rw [digs, dif_neg hm]] at hdg'
    have hdl2 : dg.length + 1 ≤ 20 := by have := HDL.out; rw [hdg', List.length_append, List.length_cons] at this; omega
    obtain ⟨A3, c3, rfl⟩ := own_form hown
    have hsm := bsmall_any _ _ (wordsOf m) 10 wr HAV.out (by omega) hwl (by decide) (by decide) (wordsOf_ws m)
    obtain ⟨R, hR⟩ : ∃ R, m % 10 = R := ⟨_, rfl⟩
    have hR10 : R < 10 := by rw [← hR]; exact Nat.mod_lt _ (by decide)
    have hRZ : (R : Int) < 10 := by omega
    have HRR := Lib.hid hR
    rw [hR] at hdg'
    rw [hM, wordsOf_val, hR] at hsm
    have HSM := Lib.hid hsm
    have HDD := Lib.hid hdg'
    rw [hM] at hwl hwl2 ⊢
    clear hsm hR hdg'
    have HMZ := Lib.hid hm
    clear hM hdg hc2 hz2 hm
    go_wp2_with fail
    refine HSM.out.mono ?_
    rintro e w2 ⟨⟨v2, rfl, hv2⟩, hb2⟩
    have k2 := cell_keep k0 hb2
    have hown2 := hown.kept (grown_below hb2 none) (by cases (Value.slice A3 dg.length c3).ownBlock <;> simp)
    have HOL : Hid (∀ k, (Value.slice A3 dg.length c3).ownBlock = some k → k < wr.heap.size) := Lib.hid (fun k hk => (hown.lt k hk).2)
    have hsz2 : w1.heap.size ≤ w2.heap.size := Nat.le_trans hsz hb2.size
    have hbw2 := hbw.trans (hb2.mono hbw.size)
    have hrs := hb2.size
    clear hwl hwl2 k0 hown hbw hb2 HSM HAV
    go_wp2_with (at_builtin; go_must (refine wpList_app1 rt_u8 w2 (.int .u8 (48 + (R : Int))) rfl (.tmp 36) (.tmp 40) rfl w1.heap.size (.slice A3 dg.length c3) dg.length (Lib.byteCells dg) rfl hown2 rfl rfl (by omega) (by omega) hsz2 ?_; intro v3 w3 o1 o2 o3 o4))
    go_roundg (m / 10)
    case rel =>
     have hm0 := HMZ.out
     have hsz3 : w2.heap.size + 1 ≤ w3.heap.size := Nat.le_trans (Nat.le_of_eq (Array.size_push _).symm) o2.size
     refine ⟨m / 10, dg ++ [UInt8.ofNat (48 + R)], Nat.le_refl _, by omega, Lib.hid (by rw [HDD.out]; simp), ?_, ?_, cell_keep c0 (hbw2.trans (o4.mono hszw)), hbw2.trans (o4.mono hszw), by omega⟩
     ·have e : Lib.byteCells (dg ++ [UInt8.ofNat (48 + R)]) = Lib.byteCells dg ++ [.int .u8 (48 + (R : Int))] := by rw [← u8_small hR10]; simp [Lib.byteCells]
      rw [e, List.length_append]
      exact o1
     ·refine hv2.keep (Same.trans (Same.below ((Below.refl _ _).alloc (Nat.le_refl _) _)) (by simp) (Same.grown o2 (fun b hD e => by have := HOL.out b e.symm; omega))) (fun b hD hl e => ?_)
      rcases o3 with h | h
      ·have := HOL.out b (by rw [← h]; exact e.symm)
       omega
      ·rw [h] at e
       injection e with e
       omega
    case measure => have := HMZ.out; omega
theorem grown_in2 {w wr : World} {p : Nat} (h : w.grownBy wr (some p)) (u v : Value) : w.grownBy ((wr.setCell ⟨p, 1, none⟩ u).setCell ⟨p, 0, none⟩ v) (some p) := by
 refine ⟨h.os, h.tape, h.output, by rw [World.size_setCell, World.size_setCell]; exact h.size, fun b hl hb => ?_⟩
 rw [Below.heap_setCell _ _ v b (fun e => hb (by rw [e])), Below.heap_setCell _ _ u b (fun e => hb (by rw [e]))]
 exact h.block b hl hb
set_option maxHeartbeats 1000000 in
theorem give_any (p : Nat) (neg : Bool) (v x0 x1 : Value) (l : List Nat) (w : World) (hv : Wds All w v l) (c0 : w.cell? ⟨p, 0, none⟩ = some x0) (c1 : w.cell? ⟨p, 1, none⟩ = some x1) (hf : ∀ j, w.frozen? ⟨p, j, none⟩ = false) :
  Calls Tryz.prog 156 #[.pointer (some ⟨p, 0, none⟩), .bool neg, v] w fun e w' => e = .returned (.pointer (some ⟨p, 0, none⟩)) ∧ w' = (w.setCell ⟨p, 1, none⟩ v).setCell ⟨p, 0, none⟩ (.bool (neg && decide (0 < l.length))) := by
 obtain ⟨A, cap, rfl, -, -, -⟩ := hv
 have f0 := hf 0
 have f1 := hf 1
 have f0' : (w.setCell ⟨p, 1, none⟩ (.slice A l.length cap)).frozen? ⟨p, 0, none⟩ = false := by rw [World.frozen?_setCell]; exact f0
 have c0' : (w.setCell ⟨p, 1, none⟩ (.slice A l.length cap)).cell? ⟨p, 0, none⟩ = some x0 := by rw [cell_ne (by decide)]; exact c0
 obtain ⟨n, hn⟩ : ∃ n, l.length = n := ⟨_, rfl⟩
 rw [hn] at *
 clear hf hn
 cases neg with
 | false =>
  go_enter Tryz.func156, Tryz.ntmps156
  go_wp2_with fail
  go_ret
  exact ⟨rfl, rfl⟩
 | true =>
  by_cases h0 : 0 < n
  ·have h0' : (0 : Int) < (n : Int) := by omega
   have hd : decide (0 < n) = true := by simpa using h0
   have HD := Lib.hid hd
   clear hd
   go_enter Tryz.func156, Tryz.ntmps156
   go_wp2_with fail
   go_ret
   exact ⟨rfl, by rw [HD.out]; rfl⟩
  ·obtain rfl : n = 0 := by omega
   go_enter Tryz.func156, Tryz.ntmps156
   go_wp2_with fail
   go_ret
   exact ⟨rfl, rfl⟩
set_option maxHeartbeats 1000000 in
theorem bigString_any (p : Nat) (n0 : Int) (w : World) (h : BigAt w p n0) (hn : n0.natAbs < 100000000000000000000) :
  Calls Tryz.prog 127 #[.pointer (some ⟨p, 0, none⟩)] w fun e w' => e = .returned (.string ⟨(Lib.itoa n0).toArray⟩) ∧ Below w.heap.size w w' := by
 go_enter Tryz.func127, Tryz.ntmps127
 go_wp2_with fail
 refine (bigText_any p n0 w h hn).mono ?_
 rintro e w1 ⟨rfl, hb⟩
 go_wp2_with fail
 go_ret
 exact ⟨rfl, hb⟩
set_option maxRecDepth 100000
theorem run_shr_u32 (x k : Nat) (w : World) (hx : x < 4294967296) (hk : k < 32) : (binOp .shr 217 (.int .u32 (x : Nat)) (.int .u64 (k : Nat))).run Tryz.prog w = .ok (.int .u32 ((x / 2 ^ k : Nat) : Int)) w := by
 go_simp
theorem bits_and1 (a : Nat) (ha : a < 18446744073709551616) : bits .and .u64 (a : Int) 1 = ((a % 2 : Nat) : Int) := by
 have e : ∀ n : Nat, n < 18446744073709551616 → (BitVec.ofInt 64 (n : Int)).toNat = n := fun n hn => by
  rw [BitVec.ofInt_natCast, BitVec.toNat_ofNat]
  exact Nat.mod_eq_of_lt hn
 show IntKind.u64.wrap (((BitVec.ofInt 64 (a : Int)) &&& (BitVec.ofInt 64 ((1 : Nat) : Int))).toNat : Int) = _
 rw [BitVec.toNat_and, e a ha, e 1 (by decide), Nat.and_one_is_mod, Go.IntWalk.u64_in _ (by omega)]
set_option maxHeartbeats 1000000 in
theorem blength_any (D : Blocks) (v : Value) (l : List Nat) (w : World) (hv : Wds D w v l) (hl : l.length ≤ 900000) (hW : Ws l) :
  Calls Tryz.prog 158 #[v] w fun e w' => e = .returned (.int .i64 (bitsW l : Nat)) ∧ w' = w := by
 obtain ⟨A, c, rfl, hv⟩ := wds_form hv
 have HV := Lib.hid hv
 clear hv
 obtain ⟨L, hL⟩ : ∃ L, l.length = L := ⟨_, rfl⟩
 have HL := Lib.hid hL
 rw [hL] at HV hl ⊢
 obtain ⟨R, hR⟩ : ∃ R, bitsW l = R := ⟨_, rfl⟩
 have HR := Lib.hid hR
 rw [hR]
 clear hR hL
 by_cases h0 : L = 0
 ·subst h0
  have hr : R = 0 := by
   rw [← HR.out]
   have : l = [] := List.eq_nil_of_length_eq_zero HL.out
   rw [this]; rfl
  subst hr
  go_enter Tryz.func158, Tryz.ntmps158
  go_wp2_with fail
  go_ret
  exact ⟨rfl, rfl⟩
 ·obtain ⟨j, rfl⟩ : ∃ j, L = j + 1 := ⟨L - 1, by omega⟩
  obtain ⟨x, hx⟩ : ∃ x, l[j]? = some x := ⟨_, List.getElem?_eq_getElem (by have := HL.out; omega)⟩
  obtain ⟨b, off, rfl, -, hc⟩ := wds_at HV.out hx
  have hxl : x < 4294967296 := hW x (mem_of_at hx)
  have HB : Hid (R = j * 32 + bits1 x) := Lib.hid (by
   rw [← HR.out]
   have e : l.getLast? = some x := by rw [List.getLast?_eq_getElem?, HL.out]; exact hx
   simp only [bitsW, e, HL.out]
   omega)
  clear hx HR
  go_enter Tryz.func158, Tryz.ntmps158
  go_wp2_with fail
  go_loop [3, 4] (fun nv tv => ∃ k y : Nat, nv = .int .i64 k ∧ tv = .int .u32 y ∧ y < 4294967296 ∧ k ≤ 32 ∧ Hid (k + bits1 y = bits1 x ∧ bits1 x ≤ 32)) (fun _ tv => (intOf tv).toNat)
  case atStart => exact ⟨0, x, rfl, rfl, hxl, by decide, by omega, (bits1_lt 32 x).1 (by omega)⟩
  case round =>
   obtain ⟨k, y, rfl, rfl, hy, hk, hs⟩ := hrel
   by_cases hy0 : y = 0
   ·subst hy0
    have hk2 : k = bits1 x := by have := hs.out.1; rw [bits1] at this; simpa using this
    have HRR : Hid (R = j * 32 + k) := Lib.hid (by rw [HB.out, hk2])
    clear hs hk2
    go_wp2_with fail
    go_ret
    refine ⟨?_, rfl⟩
    rw [HRR.out]
    simp
   ·have hyz : ((y : Int) == 0) = false := by rw [beq_eq_false_iff_ne]; omega
    have hyz2 : ((y : Int) != 0) = true := by rw [bne_iff_ne]; omega
    have hs2 : k + 1 + bits1 (y / 2) = bits1 x := by
     have := hs.out.1
     rw [bits1, dif_neg hy0] at this
     omega
    have HS := Lib.hid (And.intro hs2 hs.out.2)
    have hk31 : k + 1 ≤ 32 := by have := hs.out; omega
    have hy1 : 0 < y := by omega
    clear hs hs2 hy0
    go_wp2_with fail
    refine ⟨⟨k + 1, y / 2, by go_num, by rw [Int.natCast_ediv]; rfl, by omega, hk31, HS⟩, ?_⟩
    simp [intOf] <;> omega
theorem words_getD (N : Nat) : ∀ j, (wordsOf N).getD j 0 = N / 4294967296 ^ j % 4294967296 := by
 induction N using Nat.strongRecOn with
 | _ N ih =>
  intro j
  by_cases h0 : N = 0
  ·subst h0
   rw [wordsOf_nil.2 rfl]
   simp
  ·rw [wordsOf, dif_neg h0]
   cases j with
   | zero => simp
   | succ j =>
    rw [List.getD_cons_succ, ih (N / 4294967296) (by omega), Nat.div_div_eq_div_mul, Nat.pow_succ, Nat.mul_comm]
theorem words_bit (N k : Nat) : (wordsOf N).getD (k / 32) 0 / 2 ^ (k % 32) % 2 = N / 2 ^ k % 2 := by
 rw [words_getD]
 have h1 : ∀ x i : Nat, x / 2 ^ i % 2 = (x.testBit i).toNat := fun x i => by
  rw [Nat.testBit_eq_decide_div_mod_eq]
  have := Nat.mod_two_eq_zero_or_one (x / 2 ^ i)
  rcases this with h | h <;> simp [h]
 rw [h1, h1]
 have e : (4294967296 : Nat) ^ (k / 32) = 2 ^ (32 * (k / 32)) := by rw [Nat.pow_mul]
 have e2 : (4294967296 : Nat) = 2 ^ 32 := by decide
 rw [e]
 conv => lhs; rw [e2]
 rw [Nat.testBit_mod_two_pow, Nat.testBit_div_two_pow]
 have h3 : k % 32 < 32 := Nat.mod_lt _ (by decide)
 have h4 : 32 * (k / 32) + k % 32 = k := Nat.div_add_mod k 32
 have h5 : k % 32 + 32 * (k / 32) = k := by omega
 simp [h3, h4, h5]
set_option maxHeartbeats 1000000 in
theorem bit_any (D : Blocks) (v : Value) (l : List Nat) (i : Nat) (w : World) (hv : Wds D w v l) (hl : l.length ≤ 900000) (hW : Ws l) (hi : i ≤ 1000) :
  Calls Tryz.prog 181 #[v, .int .i64 i] w fun e w' => e = .returned (.int .u64 (l.getD (i / 32) 0 / 2 ^ (i % 32) % 2 : Nat)) ∧ w' = w := by
 obtain ⟨A, c, rfl, hv⟩ := wds_form hv
 have HV := Lib.hid hv
 clear hv
 obtain ⟨L, hL⟩ : ∃ L, l.length = L := ⟨_, rfl⟩
 have HL := Lib.hid hL
 rw [hL] at HV hl ⊢
 clear hL
 obtain ⟨j, hj⟩ : ∃ j, i / 32 = j := ⟨_, rfl⟩
 obtain ⟨r, hr⟩ : ∃ r, i % 32 = r := ⟨_, rfl⟩
 have hq : (i : Int) / 32 = (j : Int) := by omega
 have hm : (i : Int) % 32 = (r : Int) := by omega
 have hr32 : r < 32 := by omega
 rw [hj, hr]
 have hz : 0 ≤ (i : Int) := by omega
 by_cases hlt : j < L
 ·obtain ⟨x, hx⟩ : ∃ x, l[j]? = some x := ⟨_, List.getElem?_eq_getElem (by have := HL.out; omega)⟩
  obtain ⟨b, off, rfl, -, hc⟩ := wds_at HV.out hx
  have hxl : x < 4294967296 := hW x (mem_of_at hx)
  have hxd := getD_at hx
  rw [hxd]
  have hltz : ¬ (L : Int) ≤ (j : Int) := by omega
  have hsh := run_shr_u32 x r w hxl hr32
  obtain ⟨y, hy⟩ : ∃ y, x / 2 ^ r = y := ⟨_, rfl⟩
  have hyl : y < 4294967296 := by rw [← hy]; exact Nat.lt_of_le_of_lt (Nat.div_le_self _ _) hxl
  have hand := bits_and1 y (by omega)
  rw [hy] at hsh ⊢
  have HY := Lib.hid hy
  clear hx hxd hy hj hr
  go_enter Tryz.func181, Tryz.ntmps181
  go_wp2_with fail
  go_ret
  refine ⟨?_, rfl⟩
  have e1 : (x : Int) / 2 ^ r = (y : Int) := by rw [← HY.out, Int.natCast_ediv, Int.natCast_pow]; rfl
  rw [e1, Go.IntWalk.u64_in _ (by omega), hand]
  rfl
 ·have hd : l.getD j 0 = 0 := by simp [List.getD, List.getElem?_eq_none (show l.length ≤ j by have := HL.out; omega)]
  have hltz : (L : Int) ≤ (j : Int) := by omega
  rw [hd]
  clear hd hj hr
  go_enter Tryz.func181, Tryz.ntmps181
  go_wp2_with fail
  go_ret
  exact ⟨by simp, rfl⟩
set_option maxHeartbeats 1000000 in
theorem uint64_any (p : Nat) (n0 : Int) (w : World) (h : BigAt w p n0) (hn : n0.natAbs < 18446744073709551616) :
  Calls Tryz.prog 160 #[.pointer (some ⟨p, 0, none⟩)] w fun e w' => e = .returned (.int .u64 (n0.natAbs : Nat)) ∧ w' = w := by
 obtain ⟨c0, v, c1, hv⟩ := h
 obtain ⟨N, hN⟩ : ∃ N, n0.natAbs = N := ⟨_, rfl⟩
 rw [hN] at hv hn ⊢
 clear hN c0
 have hlen : (wordsOf N).length ≤ 2 := wordsOf_len (by omega)
 have hval := wordsOf_val N
 have hws := wordsOf_ws N
 obtain ⟨A, c, rfl, hv⟩ := wds_form hv
 match hl : wordsOf N, hlen with
 | [], _ =>
  rw [hl] at hv hval c1
  simp only [wval] at hval
  subst hval
  clear hv hws hl
  simp only [List.length_nil] at c1
  go_enter Tryz.func160, Tryz.ntmps160
  go_wp2_with fail
  go_ret
  exact ⟨rfl, rfl⟩
 | [x], _ =>
  rw [hl] at hv hval c1 hws
  have hxl : x < 4294967296 := hws x (by simp)
  obtain ⟨b, off, rfl, -, hc⟩ := wds_at hv (i := 0) (x := x) rfl
  simp only [wval, Nat.mul_zero, Nat.add_zero] at hval
  subst hval
  simp only [List.length_cons, List.length_nil, Nat.zero_add] at c1
  rw [Nat.add_zero] at hc
  clear hv hws hl
  go_enter Tryz.func160, Tryz.ntmps160
  go_wp2_with fail
  go_ret
  exact ⟨rfl, rfl⟩
 | [x, y], _ =>
  rw [hl] at hv hval c1 hws
  have hxl : x < 4294967296 := hws x (by simp)
  have hyl : y < 4294967296 := hws y (by simp)
  obtain ⟨b, off, e, -, hc⟩ := wds_at hv (i := 0) (x := x) rfl
  obtain ⟨b', off', e', -, hc'⟩ := wds_at hv (i := 1) (x := y) rfl
  subst e
  injection e' with e'
  injection e' with e1 e2
  subst e1 e2
  simp only [wval, Nat.mul_zero, Nat.add_zero] at hval
  have c1 : w.cell? ⟨p, 1, none⟩ = some (.slice (some ⟨b, off, none⟩) 2 c) := c1
  rw [Nat.add_zero] at hc
  have hor := bits_or x (y * 4294967296) (by omega) (by omega)
  rw [Nat.or_comm, or_add y x hxl, show y * 4294967296 + x = N by omega, Int.natCast_mul] at hor
  have hor : bits BinOp.or IntKind.u64 (x : Int) ((y : Int) * 4294967296) = (N : Int) := hor
  clear hv hws hl hval
  go_enter Tryz.func160, Tryz.ntmps160
  go_wp2_with fail
  go_ret
  exact ⟨rfl, rfl⟩
 | _ :: _ :: _ :: _, h => simp at h
set_option maxHeartbeats 1000000 in
theorem int64_any (p : Nat) (n0 : Int) (w : World) (h : BigAt w p n0) (h1 : -9223372036854775808 ≤ n0) (h2 : n0 ≤ 9223372036854775807) :
  Calls Tryz.prog 129 #[.pointer (some ⟨p, 0, none⟩)] w fun e w' => e = .returned (.int .i64 n0) ∧ w' = w := by
 have hu := Lib.hid (uint64_any p n0 w h (by omega))
 obtain ⟨c0, -⟩ := h
 obtain ⟨N, hN⟩ : ∃ N, n0.natAbs = N := ⟨_, rfl⟩
 rw [hN] at hu
 by_cases hneg : n0 < 0
 ·rw [decide_eq_true hneg] at c0
  by_cases hm : N = 9223372036854775808
  ·have hn : n0 = -9223372036854775808 := by omega
   subst hm hn
   clear h1 h2 hN hneg
   go_enter Tryz.func129, Tryz.ntmps129
   go_wp2_with fail
   refine hu.out.mono ?_
   rintro e w1 ⟨rfl, rfl⟩
   go_wp2_with fail
   go_ret
   exact ⟨congrArg (fun x => Ending.returned (.int .i64 x)) (show wrap64 (-wrap64 9223372036854775808) = -9223372036854775808 by decide +kernel), rfl⟩
  ·have hn : n0 = -(N : Int) := by omega
   subst hn
   have hNl : (N : Int) ≤ 9223372036854775807 := by omega
   have hN0 : (0 : Int) ≤ N := by omega
   clear h1 h2 hN hneg
   go_enter Tryz.func129, Tryz.ntmps129
   go_wp2_with fail
   refine hu.out.mono ?_
   rintro e w1 ⟨rfl, rfl⟩
   go_wp2_with fail
   go_ret
   exact ⟨rfl, rfl⟩
 ·rw [decide_eq_false hneg] at c0
  have hn : n0 = (N : Int) := by omega
  subst hn
  have hN0 : (0 : Int) ≤ N := by omega
  clear h1 hN hneg
  go_enter Tryz.func129, Tryz.ntmps129
  go_wp2_with fail
  refine hu.out.mono ?_
  rintro e w1 ⟨rfl, rfl⟩
  go_wp2_with fail
  go_ret
  exact ⟨rfl, rfl⟩
set_option maxHeartbeats 1000000 in
theorem tz_any (p : Nat) (n0 : Int) (w : World) (h : BigAt w p n0) (h1 : 9223372036854775808 ≤ n0.natAbs) (h2 : n0.natAbs < 18446744073709551616) :
  Calls Tryz.prog 159 #[.pointer (some ⟨p, 0, none⟩)] w fun e w' => (∃ t : Nat, e = .returned (.int .u64 t) ∧ t ≤ 63 ∧ n0.natAbs % 2 ^ t = 0 ∧ n0.natAbs / 2 ^ t % 2 = 1) ∧ w' = w := by
 obtain ⟨c0, v, c1, hv⟩ := h
 obtain ⟨N, hN⟩ : ∃ N, n0.natAbs = N := ⟨_, rfl⟩
 rw [hN] at hv h1 h2 ⊢
 clear hN c0
 have hlen : (wordsOf N).length ≤ 2 := wordsOf_len (by omega)
 obtain ⟨A, c, rfl, hv⟩ := wds_form hv
 have HV := Lib.hid hv
 have hbit : ∀ k : Nat, k ≤ 63 → Calls Tryz.prog 181 #[.slice A (wordsOf N).length c, .int .i64 k] w fun e w' => e = .returned (.int .u64 (N / 2 ^ k % 2 : Nat)) ∧ w' = w := fun k hk => by
  have := bit_any All _ (wordsOf N) k w hv (by omega) (wordsOf_ws N) (by omega)
  rw [words_bit] at this
  exact this
 obtain ⟨L, hL⟩ : ∃ L, (wordsOf N).length = L := ⟨_, rfl⟩
 have hL0 : ((L : Int) == 0) = false := by
  rw [beq_eq_false_iff_ne]
  intro e
  have : wordsOf N = [] := List.eq_nil_of_length_eq_zero (by omega)
  have := wordsOf_nil.1 this
  omega
 rw [hL] at c1 hbit
 have HB := Lib.hid hbit
 have H12 := Lib.hid (And.intro h1 h2)
 clear hbit hv hL hlen h1 h2
 go_enter Tryz.func159, Tryz.ntmps159
 go_wp2_with fail
 go_loop [3] (fun kv => ∃ k : Nat, kv = .int .u64 k ∧ k ≤ 63 ∧ Hid (N % 2 ^ k = 0)) (fun kv => 64 - (intOf kv).toNat)
 case atStart => exact ⟨0, rfl, by decide, Nat.mod_one _⟩
 case round =>
  obtain ⟨k, rfl, hk, hm⟩ := hrel
  obtain ⟨r, hr⟩ : ∃ r, N / 2 ^ k % 2 = r := ⟨_, rfl⟩
  have hb := HB.out k hk
  rw [hr] at hb
  have HBK := Lib.hid hb
  have HR := Lib.hid hr
  have hr2 : r = 0 ∨ r = 1 := by omega
  clear hb hr
  rcases hr2 with rfl | rfl
  ·have hst : N % 2 ^ (k + 1) = 0 := by
    have hp : 0 < 2 ^ k := Nat.two_pow_pos k
    have e1 := Nat.div_add_mod N (2 ^ k)
    have e2 := Nat.div_add_mod (N / 2 ^ k) 2
    rw [HR.out] at e2
    rw [hm.out] at e1
    apply Nat.mod_eq_zero_of_dvd
    refine ⟨N / 2 ^ k / 2, ?_⟩
    rw [Nat.pow_succ, Nat.mul_assoc]
    rw [Nat.add_zero] at e1 e2
    rw [e2, e1]
   have hk2 : k + 1 ≤ 63 := by
    rcases Nat.lt_or_ge k 63 with h | h
    ·exact h
    ·obtain rfl : k = 63 := by omega
     have := H12.out
     have e : (2 : Nat) ^ (63 + 1) = 18446744073709551616 := by decide
     rw [e, Nat.mod_eq_of_lt this.2] at hst
     omega
   have HST := Lib.hid hst
   clear hst hm HR
   go_wp2_with fail
   refine HBK.out.mono ?_
   rintro e w1 ⟨rfl, rfl⟩
   go_wp2_with fail
   refine ⟨⟨k + 1, by go_num, hk2, HST⟩, ?_⟩
   simp [intOf] <;> omega
  ·go_wp2_with fail
   refine HBK.out.mono ?_
   rintro e w1 ⟨rfl, rfl⟩
   go_wp2_with fail
   go_ret
   exact ⟨⟨k, rfl, hk, hm.out, HR.out⟩, rfl⟩
theorem tz_63 {N t : Nat} (h1 : 9223372036854775808 ≤ N) (h2 : N < 18446744073709551616) (ht : t ≤ 63) (h3 : N % 2 ^ t = 0) (h4 : N / 2 ^ t % 2 = 1) : t = 63 ↔ N = 9223372036854775808 := by
 constructor
 ·rintro rfl
  have e : (2 : Nat) ^ 63 = 9223372036854775808 := by decide
  rw [e] at h3
  omega
 ·rintro rfl
  rcases Nat.lt_or_ge t 63 with h | h
  ·exfalso
   have e : (9223372036854775808 : Nat) = 2 ^ t * (2 * 2 ^ (62 - t)) := by
    rw [← Nat.pow_succ', ← Nat.pow_add, show t + (62 - t + 1) = 63 by omega]
   rw [e, Nat.mul_div_cancel_left _ (Nat.two_pow_pos t)] at h4
   omega
  ·omega
set_option maxHeartbeats 1000000 in
theorem isInt64_any (p : Nat) (n0 : Int) (w : World) (h : BigAt w p n0) (hn : n0.natAbs < 100000000000000000000) :
  Calls Tryz.prog 128 #[.pointer (some ⟨p, 0, none⟩)] w fun e w' => e = .returned (.bool (decide (-9223372036854775808 ≤ n0 ∧ n0 ≤ 9223372036854775807))) ∧ w' = w := by
 have htz := tz_any p n0 w h
 obtain ⟨c0, v, c1, hv⟩ := h
 obtain ⟨N, hN⟩ : ∃ N, n0.natAbs = N := ⟨_, rfl⟩
 rw [hN] at hv hn htz
 have hlen : (wordsOf N).length ≤ 3 := wordsOf_len (by omega)
 have hb := blength_any All v (wordsOf N) w hv (by omega) (wordsOf_ws N)
 have h63 := bitsW_lt (wordsOf_ws N) (wordsOf_trimmed N) 63
 have h64 := bitsW_lt (wordsOf_ws N) (wordsOf_trimmed N) 64
 have e63 : (2 : Nat) ^ 63 = 9223372036854775808 := by decide
 have e64 : (2 : Nat) ^ 64 = 18446744073709551616 := by decide
 rw [wordsOf_val, e63] at h63
 rw [wordsOf_val, e64] at h64
 obtain ⟨K, hK⟩ : ∃ K, bitsW (wordsOf N) = K := ⟨_, rfl⟩
 rw [hK] at hb h63 h64
 obtain ⟨A, c, rfl, hv⟩ := wds_form hv
 have HB := Lib.hid hb
 have HT := Lib.hid htz
 clear hb htz hv hK hlen e63 e64
 by_cases hK1 : K < 64
 ·have hz : (K : Int) < 64 := by omega
  have hres : decide (-9223372036854775808 ≤ n0 ∧ n0 ≤ 9223372036854775807) = true := decide_eq_true (by omega)
  rw [hres]
  clear h63 h64 hres
  go_enter Tryz.func128, Tryz.ntmps128
  go_wp2_with fail
  refine HB.out.mono ?_
  rintro e w1 ⟨rfl, rfl⟩
  go_wp2_with fail
  go_ret
  exact ⟨rfl, rfl⟩
 ·have hz : ¬ (K : Int) < 64 := by omega
  by_cases hK2 : K = 64
  ·subst hK2
   have hN1 : 9223372036854775808 ≤ N := by omega
   have hN2 : N < 18446744073709551616 := by omega
   by_cases hneg : n0 < 0
   ·rw [decide_eq_true hneg] at c0
    have HT2 := Lib.hid (HT.out hN1 hN2)
    clear h63 h64 hz hK1 HT
    go_enter Tryz.func128, Tryz.ntmps128
    go_wp2_with fail
    refine HB.out.mono ?_
    rintro e w1 ⟨rfl, rfl⟩
    go_wp2_with fail
    refine HT2.out.mono ?_
    rintro e w2 ⟨⟨t, rfl, t1, t2, t3⟩, rfl⟩
    have hiff := tz_63 hN1 hN2 t1 t2 t3
    have HI := Lib.hid hiff
    clear t2 t3 hiff
    go_wp2_with fail
    go_ret
    refine ⟨?_, rfl⟩
    have hi := HI.out
    refine congrArg (fun x => Ending.returned (.bool x)) (?_ : ((t : Int) == 63) = _)
    rw [Bool.eq_iff_iff, beq_iff_eq, decide_eq_true_eq]
    omega
   ·rw [decide_eq_false hneg] at c0
    have hres : decide (-9223372036854775808 ≤ n0 ∧ n0 ≤ 9223372036854775807) = false := decide_eq_false (by omega)
    rw [hres]
    clear h63 h64 hz hK1 HT hres
    go_enter Tryz.func128, Tryz.ntmps128
    go_wp2_with fail
    refine HB.out.mono ?_
    rintro e w1 ⟨rfl, rfl⟩
    go_wp2_with fail
    go_ret
    exact ⟨rfl, rfl⟩
  ·have hz2 : ((K : Int) == 64) = false := by rw [beq_eq_false_iff_ne]; omega
   have hres : decide (-9223372036854775808 ≤ n0 ∧ n0 ≤ 9223372036854775807) = false := decide_eq_false (by omega)
   rw [hres]
   clear h63 h64 hres HT hK2
   go_enter Tryz.func128, Tryz.ntmps128
   go_wp2_with fail
   refine HB.out.mono ?_
   rintro e w1 ⟨rfl, rfl⟩
   go_wp2_with fail
   go_ret
   exact ⟨congrArg (fun x => Ending.returned (.bool x)) (decide_eq_false (by omega)), rfl⟩
set_option maxRecDepth 100000
abbrev IsBld (B b : Nat) (l : List UInt8) (w : World) : Prop := Lib.IsBuilder 92 5 B b (Lib.byteCells l) w
set_option maxHeartbeats 2000000 in
theorem copyCheck_any (B b : Nat) (bs : List Value) (w : World) (h : Lib.IsBuilder 92 5 B b bs w) :
  Calls Tryz.prog 77 #[.pointer (some ⟨b, 0, none⟩)] w fun e w' => e = .returned (.tuple #[]) ∧ Lib.BuilderAt 92 5 B b (.pointer (some ⟨b, 0, none⟩)) bs w' ∧ Below B w w' := by
 have hsz : (Tryz.prog.info? 92).map (·.size) = some 2 := by kernel_rfl
 obtain ⟨j, hj, hjs⟩ := Option.map_eq_some_iff.1 hsz
 have hlies : liesAt Tryz.prog Tryz.prog.depth 92 (2 / Tryz.prog.cellsOf 92) 0 92 1 = true := by kernel_rfl
 rcases h with h | h
 ·have h0 := h.cell0
  have hsh := h.shape
  have hfz := h.frozen0
  go_enter Tryz.func77, Tryz.ntmps77
  go_wp2
  rw [Lib.run_to_unsafe w ⟨b, 0, none⟩ Tryz.underlying90 Tryz.underlying164 hj (by rw [hjs]; decide) hsh (Nat.zero_lt_succ 1)]
  simp only [Result.andThen]
  rw [Oper.upon_value]
  go_wp2
  rw [run_callFunc_extern Tryz.func108 (by kernel_rfl) (by kernel_rfl) (by kernel_rfl) (e := Extern.AbiNoEscape.same) (by kernel_rfl)]
  rw [Lib.run_noEscape]
  simp only [Result.andThen]
  rw [Oper.upon_value]
  go_wp2
  rw [Lib.run_from_unsafe w ⟨b, 0, none⟩ Tryz.underlying164 Tryz.underlying90 hj hsh hlies]
  simp only [Result.andThen]
  rw [Oper.upon_value]
  go_wp2
  go_end0
  exact ⟨rfl, h.used _, (Below.refl B w).setCell (p := ⟨b, 0, none⟩) h.1 _⟩
 ·have h0 := h.cell0
  go_enter Tryz.func77, Tryz.ntmps77
  go_wp2
  rw [Lib.run_neq_ptr_same w _ Tryz.underlying90 hj]
  go_wp2
  go_end0
  exact ⟨rfl, h, Below.refl _ _⟩
set_option maxHeartbeats 2000000 in
theorem writeByte_any (B b : Nat) (l : List UInt8) (c : UInt8) (w : World) (h : IsBld B b l w) (hlen : l.length + 1 ≤ 140737488355328) (hBw : B ≤ w.heap.size) :
  Calls Tryz.prog 189 #[.pointer (some ⟨b, 0, none⟩), .int .u8 c.toNat] w fun e w' => e = .returned .nilIface ∧ IsBld B b (l ++ [c]) w' ∧ Below B w w' := by
 obtain ⟨i0, hi, hz0, hz1, hz2⟩ := info_parts (show (Tryz.prog.info? 5).map (fun i => (i.zero, i.size, i.bytes)) = some (some (.int .u8 0), 1, 1) by kernel_rfl)
 go_enter Tryz.func189, Tryz.ntmps189
 go_wp2_with fail
 refine (copyCheck_any B b _ _ h).mono ?_
 rintro e w1 ⟨rfl, h1, hb1⟩
 obtain ⟨hB, v, hbk, hown, hne⟩ := h1
 rw [Lib.byteCells_length] at hown
 have c0 : w1.cell? ⟨b, 0, none⟩ = some (.pointer (some ⟨b, 0, none⟩)) := by rw [Lib.cell_of_heap hbk]; rfl
 have c1 : w1.cell? ⟨b, 1, none⟩ = some v := by rw [Lib.cell_of_heap hbk]; rfl
 go_wp2_with (at_builtin; refine wpList_append_own _ rfl _ _ 62 rfl B 5 i0 (.int .u8 0) 1 1 Tryz.underlying62 hi hz0 hz1 hz2 rfl (by decide) _ _ _ rfl (hown.alloc _) ⟨w1.heap.size, 0, none⟩ 1 1 [.int .u8 c.toNat] rfl rfl ?c1 ?c2 ?c3 ?c4 ?c5 ?_)
 case c1 =>
  intro j u hj
  match j, hj with
  | 0, hj => simp at hj; subst hj; simp [Addr.add]
 case c2 => intro u hu; simp at hu; subst hu; rfl
 case c3 => unfold maxLen; omega
 case c4 => omega
 case c5 => have := hb1.size; simp; omega
 intro v' w2 hown' hgrow _
 have hlt : b < w1.heap.size := (Array.getElem?_eq_some_iff.1 hbk).1
 have hb2 : w2.heap[b]? = some (.cells #[.pointer (some ⟨b, 0, none⟩), v] 92 (0, 0)) := by
  rw [hgrow.block b (by simp; omega) (fun e => hne e.symm), Lib.alloc_old w1 _ b hlt]
  exact hbk
 have d0 : w2.cell? ⟨b, 0, none⟩ = some (.pointer (some ⟨b, 0, none⟩)) := by rw [Lib.cell_of_heap hb2]; rfl
 have d1 : w2.cell? ⟨b, 1, none⟩ = some v := by rw [Lib.cell_of_heap hb2]; rfl
 have f1 : w2.frozen? ⟨b, 1, none⟩ = false := Lib.frozen_of_heap hb2 1
 obtain ⟨g, cap, rfl⟩ : ∃ g cap, v' = .slice (some ⟨g, 0, none⟩) (l.length + 1) cap := by
  rcases hown'.2 with ⟨_, h0⟩ | ⟨g, cap, cur, hv, _⟩
  ·omega
  ·exact ⟨g, cap, hv⟩
 go_wp2_with fail
 go_ret
 refine ⟨rfl, ?_, ?_⟩
 ·have e : Lib.byteCells (l ++ [c]) = Lib.byteCells l ++ [.int .u8 c.toNat] := by simp [Lib.byteCells]
  rw [IsBld, e]
  exact Or.inr (Lib.BuilderAt.put (T := 92) (e := 5) hB hb2 (bs' := Lib.byteCells l ++ [.int .u8 c.toNat]) (by simpa [Lib.byteCells_length] using hown') (by decide))
 ·exact ((hb1.alloc (by have := hb1.size; omega) _).grown hgrow (by have := hb1.size; simp; omega) (fun k hk => (hown.lt k hk).1)).setCell (p := ⟨b, 1, none⟩) hB _
theorem Tabs.same {D : Blocks} {w w' : World} (h : Tabs w) (hs : Same D w w') (h1 : D 3) (h2 : D 4) : Tabs w' :=
 ⟨fun c hc => hs.cell h1 (h.1 c hc), fun i hi => ⟨hs.cell h2 (h.2 i hi).1, hs.cell h2 (h.2 i hi).2⟩⟩
theorem Tabs.lt {w : World} (h : Tabs w) : 3 < w.heap.size ∧ 4 < w.heap.size := ⟨cell_lt (h.1 0 (by decide)), cell_lt (h.2 0 (by decide)).1⟩
structure TabsP (p : Nat) (w : World) : Prop where
 t : Tabs w
 n1 : 3 ≠ p
 n2 : 4 ≠ p
theorem TabsP.grown {p : Nat} {w w' : World} (h : TabsP p w) (hg : w.grownBy w' (some p)) : TabsP p w' := ⟨h.t.same (same_p hg) h.n1 h.n2, h.n1, h.n2⟩
theorem TabsP.new {p : Nat} {w : World} (h : Tabs w) (hp : w.heap.size ≤ p) : TabsP p w := ⟨h, by have := h.lt.1; omega, by have := h.lt.2; omega⟩
theorem valid_any (s : List UInt8) (w : World) (hs : s.length ≤ 9223372036854775807) (hT : Tabs w) :
  Calls Tryz.prog 103 #[.string ⟨s.toArray⟩] w fun e w' => e = .returned (.bool (Lib.validD s)) ∧ Below w.heap.size w w' :=
 Any.utf8_ValidString Tryz.lays196 ⟨s.toArray⟩ w (by rw [Lib.size_eq]; exact hs) hT

set_option maxHeartbeats 400000 in
theorem vcheck_any (s n : Int) (w : World) (t : List UInt8) (hs : t.length ≤ 9223372036854775807) (hT : Tabs w) :
  Calls Tryz.prog 66 #[.agg #[.int .i64 s, .int .i64 n, .string ⟨t.toArray⟩]] w fun e w' => e = .returned (.int .i64 (vchk s n t)) ∧ Below w.heap.size w w' := by
 by_cases h3 : s = 3 ∧ n = 0
 ·obtain ⟨rfl, rfl⟩ := h3
  by_cases hl : 100 < t.length
  ·have hl' : (100 : Int) < (t.length : Int) := by omega
   go_enter Tryz.func66, Tryz.ntmps66
   go_wp2
   go_ret
   exact ⟨by simp [vchk, hl], by go_grown⟩
  ·have hl' : ¬ (100 : Int) < (t.length : Int) := by omega
   go_enter Tryz.func66, Tryz.ntmps66
   go_wp2_with (go_at_call 103; go_must (refine (valid_any t _ hs (hT.below (by go_grown))).mono ?_; rintro e w1 ⟨rfl, hb⟩))
   all_goals (go_ret; refine ⟨?_, step (by go_grown) hb (by simp)⟩)
   all_goals (first | (simp [vchk, *]; done) | (simp_all [vchk]; done))
 ·have hc : ¬ (s = 3 ∧ n = 0) := h3
  go_enter Tryz.func66, Tryz.ntmps66
  go_wp2_with fail
  all_goals (go_ret; refine ⟨?_, by go_grown⟩)
  all_goals (first | (simp [vchk, *]; done) | (simp_all [vchk]; done))
set_option maxRecDepth 100000
theorem take_snoc {l : Str} {k : Nat} {x : UInt8} (h : l[k]? = some x) : l.take (k + 1) = l.take k ++ [x] := by
 rw [List.take_add_one, h]; rfl
theorem u8z {x : UInt8} {k : Nat} (h : x ≠ UInt8.ofNat k) (hk : k < 256) : (x.toNat : Int) ≠ (k : Int) := by
 intro e
 apply h
 have e' : x.toNat = k := by omega
 rw [← e', UInt8.ofNat_toNat]
theorem isBld_new (w : World) : IsBld w.heap.size w.heap.size [] (w.alloc (.cells #[.pointer none, .slice none 0 0] 92)) :=
 Or.inl ⟨Nat.le_refl _, .slice none 0 0, (by show (w.heap.push _)[w.heap.size]? = _; rw [Array.getElem?_push_size]), World.ownsRow_nil _ _ _ _, by simp [Value.ownBlock]⟩
abbrev PowTab (w : World) : Prop := Lib.TabIs Tryz.prog w "internal/strconv.uint64pow10" .u64 Lib.pow10Tab
theorem PowTab.below {w w' : World} (h : PowTab w) (hb : Below w.heap.size w w') : PowTab w' := Lib.tabBelow_of_tabIs h w' hb
end Go.Proofs.YtpidjanngbaiiaaGreatDoor
