/-
  The program's reader of quoted texts: WriteRune, quoted.
  The readers of values: values.Read, the reference's ReadValue.
  The program's reader of types: blanks, signs and words, and how it fails.
  The reference's pieces of an expression's text: what its walk shares.
-/
import Derived.Test.YtpidjanngbaiiaaGreatDoorM6
import Derived.Test.YtpidjanngbaiiaaGreatDoorM4
import Derived.Test.YtpidjanngbaiiaaGreatDoorM7
import Derived.Shelf.Strconv.ParseIntPublic10
import Derived.Test.YtpidjanngbaiiaaGreatDoorM2
import Derived.Deep.LoopGhost
import Derived.Test.YtpidjanngbaiiaaGreatDoorM5
namespace Go.Proofs.YtpidjanngbaiiaaGreatDoor
open Go.RowKit Go.Proofs

set_option maxRecDepth 100000
set_option maxHeartbeats 2000000 in
theorem writeRune_any (B b : Nat) (l : Str) (r : Int) (w : World) (hr0 : -2147483648 ≤ r) (hr1 : r ≤ 2147483647) (h : IsBld B b l w) (hlen : l.length + 4 ≤ 140737488355328) (hBw : B ≤ w.heap.size) :
  Calls Tryz.prog 190 #[.pointer (some ⟨b, 0, none⟩), .int .i32 r] w fun e w' => (∃ k : Int, e = .returned (.tuple #[.int .i64 k, .nilIface])) ∧ IsBld B b (l ++ Lib.encodeRune r) w' ∧ Below B w w' := by
 go_enter Tryz.func190, Tryz.ntmps190
 go_wp2_with fail
 refine (copyCheck_any B b _ _ h).mono ?_
 rintro e w1 ⟨rfl, h1, hb1⟩
 obtain ⟨hB, v, hbk, hown, hne⟩ := h1
 rw [Lib.byteCells_length] at hown
 obtain ⟨A0, c00, rfl⟩ := own_form hown
 have c0 : w1.cell? ⟨b, 0, none⟩ = some (.pointer (some ⟨b, 0, none⟩)) := by rw [Lib.cell_of_heap hbk]; rfl
 have c1 : w1.cell? ⟨b, 1, none⟩ = some (.slice A0 l.length c00) := by rw [Lib.cell_of_heap hbk]; rfl
 go_wp2_with fail
 refine (Tryz.utf8_AppendRune_plain B _ l.length (Lib.byteCells l) r hr0 hr1 _ hown hlen (Nat.le_trans hBw hb1.size)).mono ?_
 rintro e w2 ⟨v', rfl, hown', o, hgrow⟩
 have hlt : b < w1.heap.size := (Array.getElem?_eq_some_iff.1 hbk).1
 have hb2 : w2.heap[b]? = some (.cells #[.pointer (some ⟨b, 0, none⟩), .slice A0 l.length c00] 92 (0, 0)) := by
  rw [hgrow.block b (by simp; omega) (fun e => hne e.symm), Lib.alloc_old w1 _ b hlt]
  exact hbk
 have d0 : w2.cell? ⟨b, 0, none⟩ = some (.pointer (some ⟨b, 0, none⟩)) := by rw [Lib.cell_of_heap hb2]; rfl
 have d1 : w2.cell? ⟨b, 1, none⟩ = some (.slice A0 l.length c00) := by rw [Lib.cell_of_heap hb2]; rfl
 have f1 : w2.frozen? ⟨b, 1, none⟩ = false := Lib.frozen_of_heap hb2 1
 obtain ⟨A1, c10, rfl⟩ := own_form hown'
 have HO := Lib.hid hown'
 have HG := Lib.hid hgrow
 have HOW := Lib.hid hown
 clear hown' hgrow hown
 go_wp2_with fail
 go_ret2
 have e : Lib.byteCells (l ++ Lib.encodeRune r) = Lib.byteCells l ++ Lib.runeCells r := by rw [Lib.byteCells_append, Lib.byteCells_encodeRune]
 refine ⟨⟨_, rfl⟩, ?_, ?_⟩
 ·rw [IsBld, e]
  exact Or.inr (Lib.BuilderAt.put (T := 92) (e := 5) hB hb2 (bs' := Lib.byteCells l ++ Lib.runeCells r) (by simpa [Lib.byteCells_length] using HO.out) (by decide))
 ·exact ((hb1.alloc (by have := hb1.size; omega) _).grown HG.out (by have := hb1.size; simp; omega) (fun k hk => (HOW.out.lt k hk).1)).setCell (p := ⟨b, 1, none⟩) hB _
theorem enc_rune {l : Str} (h0 : l ≠ []) (hb : ¬ ((Lib.decodeL l).1 = 65533 ∧ (Lib.decodeL l).2 = 1)) : Lib.encodeRune ((Lib.decodeL l).1 : Int) = enc (Lib.decodeL l).1 := by
 have hw := Lib.decodeL_width l
 obtain ⟨h1, h2, -⟩ := dec_enc l h0 (fun e => hb ⟨e.1, by omega⟩)
 rw [Lib.encode_decode l h0 hb, ← h2]
 conv => lhs; arg 2; rw [h1]
 rw [List.take_left]
theorem dec_le (l : Str) : (Lib.decodeL l).1 ≤ 1114111 := by
 rw [Lib.decodeL_N]
 unfold Lib.decodeN
 have l0 : (l.getD 0 0).toNat < 256 := (l.getD 0 0).toNat_lt
 repeat' split
 all_goals (show _ ≤ _; omega)
theorem bld_keep {B b : Nat} {l : Str} {w w' : World} (h : IsBld B b l w) (hb : Below w.heap.size w w') : IsBld B b l w' := by
 have key : ∀ p, Lib.BuilderAt 92 5 B b p (Lib.byteCells l) w → Lib.BuilderAt 92 5 B b p (Lib.byteCells l) w' := by
  rintro p ⟨h1, v, h2, h3, h4⟩
  have hlt := (Array.getElem?_eq_some_iff.1 h2).1
  exact ⟨h1, v, (hb.block b hlt).trans h2, own_keep h3 hb (Nat.le_refl _), h4⟩
 exact h.imp (key _) (key _)
theorem pq_end (f : Nat) (out : Str) : pq f [] out = none := by cases f <;> simp [pq]
section
variable {f : Nat} {l out : Str}
theorem pq_bad (h : ((Lib.decodeL l).1 = 65533 ∧ (Lib.decodeL l).2 = 1) ∨ (Lib.decodeL l).1 = 10) : pq f l out = none := by
 cases f with
 | zero => rfl
 | succ f =>
  rw [pq]
  split
  ·rfl
  ·first | rfl | rw [if_pos h]
variable (hg : ¬ (((Lib.decodeL l).1 = 65533 ∧ (Lib.decodeL l).2 = 1) ∨ (Lib.decodeL l).1 = 10)) (h0 : l ≠ [])
include hg h0
theorem pq_q1 (h : (Lib.decodeL l).1 = 34) (hl : 1 < l.length) : pq f l out = none := by
 cases f with
 | zero => rfl
 | succ f => rw [pq, if_neg h0, if_neg hg, if_pos h, if_pos hl]
theorem pq_q2 (h : (Lib.decodeL l).1 = 34) (hl : ¬ 1 < l.length) : pq (f + 1) l out = some out := by rw [pq, if_neg h0, if_neg hg, if_pos h, if_neg hl]
theorem pq_e1 (h : (Lib.decodeL l).1 = 92) (hl : l.length = 1) : pq f l out = none := by
 cases f with
 | zero => rfl
 | succ f => rw [pq, if_neg h0, if_neg hg, if_neg (by omega), if_pos h, if_pos hl]
theorem pq_e2 (h : (Lib.decodeL l).1 = 92) (hl : ¬ l.length = 1) {c : UInt8} (hc : l.getD 1 0 = c) (h2 : c = 92 ∨ c = 34) : pq (f + 1) l out = pq f (l.drop 2) (out ++ [c]) := by
 rw [pq, if_neg h0, if_neg hg, if_neg (by omega), if_pos h, if_neg hl, hc, if_pos h2]
theorem pq_e3 (h : (Lib.decodeL l).1 = 92) (hl : ¬ l.length = 1) (hc : l.getD 1 0 = 110) : pq (f + 1) l out = pq f (l.drop 2) (out ++ [10]) := by
 rw [pq, if_neg h0, if_neg hg, if_neg (by omega), if_pos h, if_neg hl, hc, if_neg (by decide), if_pos rfl]
theorem pq_e4 (h : (Lib.decodeL l).1 = 92) (hl : ¬ l.length = 1) {c : UInt8} (hc : l.getD 1 0 = c) (h1 : c ≠ 92) (h2 : c ≠ 34) (h3 : c ≠ 110) : pq f l out = none := by
 cases f with
 | zero => rfl
 | succ f => rw [pq, if_neg h0, if_neg hg, if_neg (by omega), if_pos h, if_neg hl, hc, if_neg (by simp [h1, h2]), if_neg h3]
theorem pq_d (h1 : (Lib.decodeL l).1 ≠ 34) (h2 : (Lib.decodeL l).1 ≠ 92) : pq (f + 1) l out = pq f (l.drop (Lib.decodeL l).2) (out ++ Lib.encodeRune (Lib.decodeL l).1) := by
 rw [pq, if_neg h0, if_neg hg, if_neg h1, if_neg h2, enc_rune h0 (fun e => hg (.inl e))]
end
abbrev vAgg (r : VR) : Value := .agg #[.int .i64 r.1, .int .i64 r.2.1, .string ⟨r.2.2.1.toArray⟩]
abbrev vRes (r : VR) : Value := .tuple #[vAgg r, .int .i64 r.2.2.2]
theorem idx_any (x : UInt8) (w : World) : Calls Tryz.prog 182 #[.string ⟨#[92, 34, 110]⟩, .int .u8 x.toNat] w fun e w' => e = .returned (.int .i64 (if x = 92 then 0 else if x = 34 then 1 else if x = 110 then 2 else -1)) ∧ w' = w := by
 refine (Tryz.strings_IndexByte ⟨#[92, 34, 110]⟩ x.toNat w).mono ?_
 rintro e w' ⟨rfl, rfl⟩
 refine ⟨?_, rfl⟩
 have e : ((x.toNat : Int)).toNat.toUInt8 = x := by simp
 rw [e]
 have : Lib.indexByte ([92, 34, 110] : List UInt8) x = if x = 92 then 0 else if x = 34 then 1 else if x = 110 then 2 else -1 := by
  have hb : ∀ a b : UInt8, (a == b) = decide (b = a) := fun a b => by rw [Bool.eq_iff_iff, beq_iff_eq, decide_eq_true_eq]; exact eq_comm
  simp only [Lib.indexByte, hb, decide_eq_true_eq]
  by_cases h1 : x = 92
  ·rw [if_pos h1, if_pos h1]
  ·rw [if_neg h1, if_neg h1]
   by_cases h2 : x = 34
   ·rw [if_pos h2, if_pos h2]; rfl
   ·rw [if_neg h2, if_neg h2]
    by_cases h3 : x = 110
    ·rw [if_pos h3, if_pos h3]; rfl
    ·rw [if_neg h3, if_neg h3]; rfl
 exact congrArg (fun k => Ending.returned (.int .i64 k)) this
set_option maxHeartbeats 4000000 in
theorem quoted_any (t : Str) (w : World) (ht : t.length ≤ 1048576) (h34 : t.head? = some 34) (hT : Tabs w) :
  Calls Tryz.prog 175 #[.string ⟨t.toArray⟩] w fun e w' => e = .returned (vRes (qVal (pq (t.length - 1) (t.drop 1) []))) ∧ Below w.heap.size w w' := by
 obtain ⟨L, hL⟩ : ∃ L, t.length = L := ⟨_, rfl⟩
 have HL := Lib.hid hL
 have hL1 : 1 ≤ L := by
  rw [← hL]
  cases t with
  | nil => simp at h34
  | cons _ _ => simp
 rw [hL] at ht ⊢
 obtain ⟨PQ, hPQ⟩ : ∃ x, pq (L - 1) (t.drop 1) [] = x := ⟨_, rfl⟩
 have HPQ := Lib.hid hPQ
 rw [hPQ]
 clear hL hPQ h34
 have hz0 : (w.alloc (.cells #[.int .i64 0, .int .i64 0, .string ⟨#[]⟩] 26)).cell? ⟨w.heap.size, 0, none⟩ = some (.int .i64 0) := by simp [go_sem]
 have hz1 : (w.alloc (.cells #[.int .i64 0, .int .i64 0, .string ⟨#[]⟩] 26)).cell? ⟨w.heap.size, 1, none⟩ = some (.int .i64 0) := by simp [go_sem]
 have hz2 : (w.alloc (.cells #[.int .i64 0, .int .i64 0, .string ⟨#[]⟩] 26)).cell? ⟨w.heap.size, 2, none⟩ = some (.string ⟨#[]⟩) := by simp [go_sem]
 have hzf : ∀ j, (w.alloc (.cells #[.int .i64 0, .int .i64 0, .string ⟨#[]⟩] 26)).frozen? ⟨w.heap.size, j, none⟩ = false := fun j => by simp [go_sem]
 have hbV : Below w.heap.size w (w.alloc (.cells #[.int .i64 0, .int .i64 0, .string ⟨#[]⟩] 26)) := by go_grown
 have hsV : (w.alloc (.cells #[.int .i64 0, .int .i64 0, .string ⟨#[]⟩] 26)).heap.size = w.heap.size + 1 := by simp
 go_enter Tryz.func175, Tryz.ntmps175
 go_wp2_with fail
 obtain ⟨V, hV⟩ : ∃ V, w.alloc (.cells #[.int .i64 0, .int .i64 0, .string ⟨#[]⟩] 26) = V := ⟨_, rfl⟩
 rw [hV] at hz0 hz1 hz2 hzf hbV hsV ⊢
 clear hV
 have hTV := hT.below hbV
 have h0 := Lib.hid (isBld_new V)
 have hb0 : Below V.heap.size V (V.alloc (.cells #[.pointer none, .slice none 0 0] 92)) := by go_grown
 have HZ := Lib.hid (And.intro hz0 (And.intro hz1 (And.intro hz2 hzf)))
 have hsV2 := Lib.hid hsV
 obtain ⟨q, hq⟩ : ∃ q, w.heap.size = q := ⟨_, rfl⟩
 have hqv : q < V.heap.size := by omega
 rw [← hsV]
 obtain ⟨W, hW⟩ : ∃ W, V.alloc (.cells #[.pointer none, .slice none 0 0] 92) = W := ⟨_, rfl⟩
 rw [hW] at h0 hb0 ⊢
 clear hW hz0 hz1 hz2 hzf hsV
 rw [hq] at HZ ⊢
 go_loopw [5] (fun i wr => ∃ (j f : Nat) (out : Str), 1 ≤ j ∧ j ≤ L ∧ i = .int .i64 j ∧ L ≤ f + j ∧ out.length ≤ j ∧ Hid (pq f (t.drop j) out = PQ) ∧ Hid (IsBld V.heap.size V.heap.size out wr) ∧ Below V.heap.size V wr) (fun i _ => L - (intOf i).toNat)
 case atStart => exact ⟨1, L - 1, [], Nat.le_refl _, hL1, rfl, by omega, Nat.zero_le _, HPQ, h0, hb0⟩
 case round =>
  clear h0 hb0
  obtain ⟨j, f, out, hj1, hj, rfl, hf, hol, hpq, hB, hb⟩ := hrel
  have k0 := cell_keep HZ.out.1 hb
  have k1 := cell_keep HZ.out.2.1 hb
  have k2 := cell_keep HZ.out.2.2.1 hb
  have kf : ∀ i, wr.frozen? ⟨q, i, none⟩ = false := fun i => (hb.frozen (p := ⟨q, i, none⟩) hqv).trans (HZ.out.2.2.2 i)
  by_cases hlt : j < L
  ·have hlt2 : j < t.length := by rw [HL.out]; exact hlt
   have l0 : t.drop j ≠ [] := by
    intro e
    have := congrArg List.length e
    rw [List.length_drop] at this
    simp at this
    omega
   obtain ⟨l, hl⟩ : ∃ l, t.drop j = l := ⟨_, rfl⟩
   have hll : l.length = L - j := by rw [← hl, List.length_drop, HL.out]
   have hdec := decode_any l (hl ▸ l0) wr (hTV.below hb)
   have hw := Lib.decodeL_width l
   have hle := dec_le l
   have HLL := Lib.hid hl
   have HLN := Lib.hid hll
   rw [hl] at hpq l0
   have HDEC := Lib.hid hdec
   have L0 := Lib.hid l0
   clear hll hdec l0
   go_wp2_with fail
   refine HDEC.out.mono ?_
   rintro e w1 ⟨rfl, hb1⟩
   clear hl
   obtain ⟨R, hR⟩ : ∃ R, (Lib.decodeL l).1 = R := ⟨_, rfl⟩
   obtain ⟨N, hN⟩ : ∃ N, (Lib.decodeL l).2 = N := ⟨_, rfl⟩
   have HR := Lib.hid hR
   have HN := Lib.hid hN
   rw [hR] at hle ⊢
   rw [hN] at hw ⊢
   have K0 := cell_keep k0 hb1
   have K1 := cell_keep k1 hb1
   have K2 := cell_keep k2 hb1
   have kf0 : w1.frozen? ⟨q, 0, none⟩ = false := (hb1.frozen (p := ⟨q, 0, none⟩) (cell_lt k0)).trans (kf 0)
   have kf1 : w1.frozen? ⟨q, 1, none⟩ = false := (hb1.frozen (p := ⟨q, 1, none⟩) (cell_lt k1)).trans (kf 1)
   have kf2 : w1.frozen? ⟨q, 2, none⟩ = false := (hb1.frozen (p := ⟨q, 2, none⟩) (cell_lt k2)).trans (kf 2)
   have hB1 := Lib.hid (bld_keep hB.out hb1)
   have hbw1 : Below V.heap.size V w1 := chain hb hb1
   clear hR hN k0 k1 k2 kf hB HDEC hb hb1
   have RB : Hid (∀ u0 u1 u2 : Value, Below w.heap.size w (((w1.setCell ⟨q, 0, none⟩ u0).setCell ⟨q, 1, none⟩ u1).setCell ⟨q, 2, none⟩ u2)) := Lib.hid fun u0 u1 u2 => by
    have h := hbV.trans (hbw1.mono hbV.size)
    exact ((h.setCell (p := ⟨q, 0, none⟩) (Nat.le_of_eq hq) _).setCell (p := ⟨q, 1, none⟩) (Nat.le_of_eq hq) _).setCell (p := ⟨q, 2, none⟩) (Nat.le_of_eq hq) _
   by_cases hbad : (R = 65533 ∧ N = 1) ∨ R = 10
   ·have HRES : Hid (PQ = none) := Lib.hid (by rw [← hpq.out]; exact pq_bad (by rw [HR.out, HN.out]; exact hbad))
    clear hpq
    rcases hbad with ⟨rfl, rfl⟩ | rfl
    ·clear HR HN
     go_wp2_with fail
     refine bodyPost_ret (v := vRes (0, 0, [], 3)) (by simp [results, Tryz.results175, go_sem, K0, K1, K2]) rfl ⟨by rw [HRES.out]; rfl, (by first | exact RB.out _ _ _ | exact hq ▸ RB.out _ _ _)⟩
    ·clear HR HN
     go_wp2_with fail
     refine bodyPost_ret (v := vRes (0, 0, [], 3)) (by simp [results, Tryz.results175, go_sem, K0, K1, K2]) rfl ⟨by rw [HRES.out]; rfl, (by first | exact RB.out _ _ _ | exact hq ▸ RB.out _ _ _)⟩
   ·have HG : Hid (¬ (((Lib.decodeL l).1 = 65533 ∧ (Lib.decodeL l).2 = 1) ∨ (Lib.decodeL l).1 = 10)) := Lib.hid (by rw [HR.out, HN.out]; exact hbad)
    have hgood : ¬ ((Lib.decodeL l).1 = 65533 ∧ (Lib.decodeL l).2 < 2) := fun e => HG.out (.inl ⟨e.1, by rw [HN.out] at *; omega⟩)
    have hNl : N ≤ l.length := by
     have h := (dec_enc l L0.out hgood).1
     have h2 := (dec_enc l L0.out hgood).2.1
     rw [HN.out] at h2
     rw [h, List.length_append, h2]
     exact Nat.le_add_right _ _
    have hf1 : ∃ g, f = g + 1 := ⟨f - 1, by omega⟩
    obtain ⟨f, rfl⟩ := hf1
    by_cases h34 : R = 34
    ·subst h34
     clear hbad hgood
     by_cases hl1 : j + 1 < L
     ·have hlz : (j : Int) + 1 < (t.length : Int) := by have := HL.out; omega
      have HRES : Hid (PQ = none) := Lib.hid (by rw [← hpq.out]; exact pq_q1 HG.out L0.out HR.out (by rw [HLN.out]; omega))
      clear hpq
      go_wp2_with fail
      refine bodyPost_ret (v := vRes (0, 0, [], 3)) (by simp [results, Tryz.results175, go_sem, K0, K1, K2]) rfl ⟨by rw [HRES.out]; rfl, (by first | exact RB.out _ _ _ | exact hq ▸ RB.out _ _ _)⟩
     ·have hlz : ¬ (j : Int) + 1 < (t.length : Int) := by have := HL.out; omega
      have hlen := Tryz.Builder_Len V.heap.size V.heap.size (Lib.byteCells out) w1 hB1.out
      rw [Lib.byteCells_length] at hlen
      have HLEN := Lib.hid hlen
      have hpo : PQ = some out := by rw [← hpq.out]; exact pq_q2 HG.out L0.out HR.out (by rw [HLN.out]; omega)
      have HPO := Lib.hid hpo
      clear hlen hpq hpo HG
      by_cases h100 : 100 < out.length
      ·have hz100 : (100 : Int) < (out.length : Int) := by omega
       have HRES : Hid (qVal PQ = (0, 0, [], 2)) := Lib.hid (by rw [HPO.out]; exact if_pos h100)
       go_wp2_with fail
       refine HLEN.out.mono ?_
       rintro e w2 ⟨rfl, rfl⟩
       go_wp2_with fail
       refine bodyPost_ret (v := vRes (0, 0, [], 2)) (by simp [results, Tryz.results175, go_sem, K0, K1, K2]) rfl ⟨by rw [HRES.out], (by first | exact RB.out _ _ _ | exact hq ▸ RB.out _ _ _)⟩
      ·have hz100 : ¬ (100 : Int) < (out.length : Int) := by omega
       have HRES : Hid (qVal PQ = (3, 0, out, 0)) := Lib.hid (by rw [HPO.out]; exact if_neg h100)
       go_wp2_with fail
       refine HLEN.out.mono ?_
       rintro e w2 ⟨rfl, rfl⟩
       go_wp2_with fail
       refine (Tryz.Builder_String_any _ _ _ _ hB1.out hbw1.size).mono ?_
       rintro e w3 ⟨rfl, hb3⟩
       have hwq : q < w2.heap.size := cell_lt K0
       have M0 := (hb3.cell (p := ⟨q, 0, none⟩) hqv).trans K0
       have M1 := (hb3.cell (p := ⟨q, 1, none⟩) hqv).trans K1
       have M2 := (hb3.cell (p := ⟨q, 2, none⟩) hqv).trans K2
       have mf0 := (hb3.frozen (p := ⟨q, 0, none⟩) hqv).trans kf0
       have mf1 := (hb3.frozen (p := ⟨q, 1, none⟩) hqv).trans kf1
       have mf2 := (hb3.frozen (p := ⟨q, 2, none⟩) hqv).trans kf2
       have hbw3 : Below V.heap.size V w3 := hbw1.trans hb3
       have RB3 : Hid (∀ u0 u1 u2 : Value, Below w.heap.size w (((w3.setCell ⟨q, 0, none⟩ u0).setCell ⟨q, 1, none⟩ u1).setCell ⟨q, 2, none⟩ u2)) := Lib.hid fun u0 u1 u2 => by
        have h := hbV.trans (hbw3.mono hbV.size)
        exact ((h.setCell (p := ⟨q, 0, none⟩) (Nat.le_of_eq hq) _).setCell (p := ⟨q, 1, none⟩) (Nat.le_of_eq hq) _).setCell (p := ⟨q, 2, none⟩) (Nat.le_of_eq hq) _
       clear K0 K1 K2 kf0 kf1 kf2 RB hB1
       go_wp2_with fail
       refine bodyPost_ret (v := vRes (3, 0, out, 0)) (by simp [results, Tryz.results175, go_sem, M0, M1, M2]) rfl ⟨by rw [HRES.out], (by first | exact RB3.out _ _ _ | exact hq ▸ RB3.out _ _ _)⟩
    ·by_cases h92 : R = 92
     ·subst h92
      clear hbad hgood h34
      have hN1 : N = 1 := by
       obtain ⟨_, -, h⟩ := first_ascii L0.out (by rw [HR.out]; omega) (fun e => by have := HR.out; omega)
       rw [← HN.out]; exact h
      subst hN1
      by_cases hl1 : j + 1 = L
      ·have hlz : (j : Int) + 1 = (t.length : Int) := by have := HL.out; omega
       have HRES : Hid (PQ = none) := Lib.hid (by rw [← hpq.out]; exact pq_e1 HG.out L0.out HR.out (by rw [HLN.out]; omega))
       clear hpq
       go_wp2_with fail
       refine bodyPost_ret (v := vRes (0, 0, [], 3)) (by simp [results, Tryz.results175, go_sem, K0, K1, K2]) rfl ⟨by rw [HRES.out]; rfl, (by first | exact RB.out _ _ _ | exact hq ▸ RB.out _ _ _)⟩
      ·have hlz : ¬ (j : Int) + 1 = (t.length : Int) := by have := HL.out; omega
       obtain ⟨c, hc⟩ : ∃ c, t[j + 1]? = some c := ⟨_, List.getElem?_eq_getElem (by have := HL.out; omega)⟩
       have HC := Lib.hid hc
       have hlt3 : j + 1 < t.length := by have := HL.out; omega
       have E : ((⟨t.toArray⟩ : ByteArray)[j + 1]'(by simpa [ByteArray.size] using hlt3)).toNat = c.toNat := by rw [byte_at' HC.out]
       have hcl : l.getD 1 0 = c := by
        rw [← HLL.out]
        simp only [List.getD, List.getElem?_drop, hc]
        rfl
       have HCL := Lib.hid hcl
       have hl0 : ¬ l.length = 1 := by rw [HLN.out]; omega
       have hidx := Lib.hid (idx_any c w1)
       have hlz2 : (j : Int) + 1 < (t.length : Int) := by omega
       clear hc hcl
       by_cases c92 : c = 92
       ·subst c92
        have HNX := Lib.hid ((pq_e2 (f := f) (out := out) HG.out L0.out HR.out hl0 HCL.out (.inl rfl)).symm.trans hpq.out)
        rw [← HLL.out, List.drop_drop] at HNX
        rw [if_pos rfl] at hidx
        clear hpq hl0 HCL
        go_wp2_with fail
        refine hidx.out.mono ?_
        rintro e w2 ⟨rfl, rfl⟩
        go_wp2_with fail
        refine (writeByte_any _ _ _ 92 _ hB1.out (by omega) hbw1.size).mono ?_
        rintro e w2 ⟨rfl, h2, hb2⟩
        replace h2 := Lib.hid h2
        go_wp2_with fail
        go_roundw
        case rel =>
         refine ⟨j + 2, f, out ++ [92], by omega, by omega, by go_num, by omega, by rw [List.length_append, List.length_singleton]; omega, HNX, h2, hbw1.trans hb2⟩
        case measure => simp [intOf] <;> omega
       ·by_cases c34 : c = 34
        ·subst c34
         have HNX := Lib.hid ((pq_e2 (f := f) (out := out) HG.out L0.out HR.out hl0 HCL.out (.inr rfl)).symm.trans hpq.out)
         rw [← HLL.out, List.drop_drop] at HNX
         rw [if_neg (by decide), if_pos rfl] at hidx
         clear hpq hl0 HCL c92
         go_wp2_with fail
         refine hidx.out.mono ?_
         rintro e w2 ⟨rfl, rfl⟩
         go_wp2_with fail
         refine (writeByte_any _ _ _ 34 _ hB1.out (by omega) hbw1.size).mono ?_
         rintro e w2 ⟨rfl, h2, hb2⟩
         replace h2 := Lib.hid h2
         go_wp2_with fail
         go_roundw
         case rel =>
          refine ⟨j + 2, f, out ++ [34], by omega, by omega, by go_num, by omega, by rw [List.length_append, List.length_singleton]; omega, HNX, h2, hbw1.trans hb2⟩
         case measure => simp [intOf] <;> omega
        ·by_cases c110 : c = 110
         ·subst c110
          have HNX := Lib.hid ((pq_e3 (f := f) (out := out) HG.out L0.out HR.out hl0 HCL.out).symm.trans hpq.out)
          rw [← HLL.out, List.drop_drop] at HNX
          rw [if_neg (by decide), if_neg (by decide), if_pos rfl] at hidx
          clear hpq hl0 HCL c92 c34
          go_wp2_with fail
          refine hidx.out.mono ?_
          rintro e w2 ⟨rfl, rfl⟩
          go_wp2_with fail
          refine (writeByte_any _ _ _ 10 _ hB1.out (by omega) hbw1.size).mono ?_
          rintro e w2 ⟨rfl, h2, hb2⟩
          replace h2 := Lib.hid h2
          go_wp2_with fail
          go_roundw
          case rel =>
           refine ⟨j + 2, f, out ++ [10], by omega, by omega, by go_num, by omega, by rw [List.length_append, List.length_singleton]; omega, HNX, h2, hbw1.trans hb2⟩
          case measure => simp [intOf] <;> omega
         ·have HRES : Hid (PQ = none) := Lib.hid (by rw [← hpq.out]; exact pq_e4 HG.out L0.out HR.out hl0 HCL.out c92 c34 c110)
          rw [if_neg c92, if_neg c34, if_neg c110] at hidx
          clear hpq hl0 HCL c92 c34 c110
          go_wp2_with fail
          refine hidx.out.mono ?_
          rintro e w2 ⟨rfl, rfl⟩
          go_wp2_with fail
          refine bodyPost_ret (v := vRes (0, 0, [], 3)) (by simp [results, Tryz.results175, go_sem, K0, K1, K2]) rfl ⟨by rw [HRES.out]; rfl, (by first | exact RB.out _ _ _ | exact hq ▸ RB.out _ _ _)⟩
     ·have HNX : Hid (pq f (t.drop (j + N)) (out ++ Lib.encodeRune (R : Int)) = PQ) := Lib.hid (by
       have h := pq_d (f := f) (out := out) HG.out L0.out (by rw [HR.out]; exact h34) (by rw [HR.out]; exact h92)
       rw [← hpq.out, h, HR.out, HN.out, ← HLL.out, List.drop_drop])
      have hel : (Lib.encodeRune (R : Int)).length = N := by
       have h1 := enc_rune L0.out (fun e => HG.out (.inl e))
       have h2 := (dec_enc l L0.out hgood).2.1
       rw [HR.out] at h1 h2
       rw [h1, h2, HN.out]
      have hjN : j + N ≤ L := by have := HLN.out; omega
      clear hpq hgood
      have h34z : ¬ (R : Int) = 34 := by omega
      have h92z : ¬ (R : Int) = 92 := by omega
      have h10z : ¬ (R : Int) = 10 := by omega
      have hwr := Lib.hid (writeRune_any V.heap.size V.heap.size out (R : Int) w1 (by omega) (by omega) hB1.out (by omega) hbw1.size)
      by_cases h65 : R = 65533
      ·have hN1 : ¬ (N : Int) = 1 := by omega
       subst h65
       clear hbad h34 h92 h34z h92z h10z HR
       go_wp2_with fail
       refine hwr.out.mono ?_
       rintro e w2 ⟨⟨k, rfl⟩, h2, hb2⟩
       replace h2 := Lib.hid h2
       go_wp2_with fail
       go_roundw
       case rel =>
        refine ⟨j + N, f, _, by omega, hjN, by go_num, by omega, ?_, HNX, h2, hbw1.trans hb2⟩
        rw [List.length_append, hel]; omega
       case measure => simp [intOf] <;> omega
      ·have h65z : ¬ (R : Int) = 65533 := by omega
       clear hbad h34 h92
       go_wp2_with fail
       refine hwr.out.mono ?_
       rintro e w2 ⟨⟨k, rfl⟩, h2, hb2⟩
       replace h2 := Lib.hid h2
       go_wp2_with fail
       go_roundw
       case rel =>
        refine ⟨j + N, f, _, by omega, hjN, by go_num, by omega, ?_, HNX, h2, hbw1.trans hb2⟩
        rw [List.length_append, hel]; omega
       case measure => simp [intOf] <;> omega
  ·have HRES : Hid (PQ = none) := Lib.hid (by
    rw [← hpq.out, List.drop_of_length_le (by have := HL.out; omega)]
    exact pq_end _ _)
   have hlz : ¬ (j : Int) < (t.length : Int) := by have := HL.out; omega
   have K0 := k0
   have K1 := k1
   have K2 := k2
   have kf0 := kf 0
   have kf1 := kf 1
   have kf2 := kf 2
   have RB : Hid (∀ u0 u1 u2 : Value, Below w.heap.size w (((wr.setCell ⟨q, 0, none⟩ u0).setCell ⟨q, 1, none⟩ u1).setCell ⟨q, 2, none⟩ u2)) := Lib.hid fun u0 u1 u2 => by
    have h := hbV.trans (hb.mono hbV.size)
    exact ((h.setCell (p := ⟨q, 0, none⟩) (Nat.le_of_eq hq) _).setCell (p := ⟨q, 1, none⟩) (Nat.le_of_eq hq) _).setCell (p := ⟨q, 2, none⟩) (Nat.le_of_eq hq) _
   clear hpq kf k0 k1 k2
   go_wp2_with fail
   refine bodyPost_ret (v := vRes (0, 0, [], 3)) (by simp [results, Tryz.results175, go_sem, K0, K1, K2]) rfl ⟨by rw [HRES.out]; rfl, (by first | exact RB.out _ _ _ | exact hq ▸ RB.out _ _ _)⟩
end Go.Proofs.YtpidjanngbaiiaaGreatDoor
namespace Go.Proofs.YtpidjanngbaiiaaGreatDoor
open Go.RowKit Go.Proofs

set_option maxRecDepth 100000
theorem quotedRef_any (t : Str) (w : World) (ht : t.length ≤ 1048576) (hT : Tabs w) :
  Calls Tryz.prog 90 #[.string ⟨t.toArray⟩] w fun e w' => e = quRes (quotedR t) ∧ Below w.heap.size w w' := by
 by_cases h34 : t[0]? = some 34
 ·exact quotedRef_q t w ht h34 hT
 ·have hres : quotedR t = none := by
   unfold quotedR
   rw [if_neg (by rw [List.head?_eq_getElem?]; exact h34)]
  rw [hres]
  cases t with
  | nil =>
   go_enter Tryz.func90, Tryz.ntmps90
   go_wp2_with fail
   go_ret2
   exact ⟨rfl, Below.refl _ _⟩
  | cons b r =>
   have hb : b ≠ 34 := fun e => h34 (by rw [e]; rfl)
   have E0 : ((⟨(b :: r).toArray⟩ : ByteArray)[0]'(by simp [ByteArray.size])).toNat = b.toNat := rfl
   have hz : ((b.toNat : Int) == 34) = false := by rw [beq_eq_false_iff_ne]; exact u8z hb (by decide)
   have hz2 : ((b.toNat : Int) != 34) = true := by rw [bne_iff_ne]; exact u8z hb (by decide)
   clear h34 hres hb
   go_enter Tryz.func90, Tryz.ntmps90
   go_wp2_with fail
   go_ret2
   exact ⟨rfl, Below.refl _ _⟩
theorem box3 {w w1 : World} (hb : Below w.heap.size w w1) (u0 u1 u2 : Value) : Below w.heap.size w (((w1.setCell ⟨w.heap.size, 0, none⟩ u0).setCell ⟨w.heap.size, 1, none⟩ u1).setCell ⟨w.heap.size, 2, none⟩ u2) :=
 ((hb.setCell (p := ⟨w.heap.size, 0, none⟩) (Nat.le_refl _) _).setCell (p := ⟨w.heap.size, 1, none⟩) (Nat.le_refl _) _).setCell (p := ⟨w.heap.size, 2, none⟩) (Nat.le_refl _) _
structure ZBox (w : World) (q : Nat) : Prop where
 c0 : w.cell? ⟨q, 0, none⟩ = some (.int .i64 0)
 c1 : w.cell? ⟨q, 1, none⟩ = some (.int .i64 0)
 c2 : w.cell? ⟨q, 2, none⟩ = some (.string ⟨#[]⟩)
 f : ∀ j, w.frozen? ⟨q, j, none⟩ = false
theorem ZBox.keep {w w' : World} {q : Nat} (h : ZBox w q) (hb : Below w.heap.size w w') : ZBox w' q :=
 ⟨cell_keep h.c0 hb, cell_keep h.c1 hb, cell_keep h.c2 hb, fun j => (hb.frozen (p := ⟨q, j, none⟩) (cell_lt h.c0)).trans (h.f j)⟩
theorem ZBox.new (w : World) : ZBox (w.alloc (.cells #[.int .i64 0, .int .i64 0, .string ⟨#[]⟩] 26)) w.heap.size := ⟨by simp [go_sem], by simp [go_sem], by simp [go_sem], fun j => by simp [go_sem]⟩
def IsErr (ev : Value) : Prop := ev = .nilIface ∨ ∃ te pe, ev = .iface te pe
structure ErrVars (w : World) : Prop where
 s : ∃ ev, w.cell? ⟨6, 0, none⟩ = some ev ∧ IsErr ev
 r : ∃ ev, w.cell? ⟨7, 0, none⟩ = some ev ∧ IsErr ev
theorem ErrVars.below {w w' : World} (h : ErrVars w) (hb : Below w.heap.size w w') : ErrVars w' :=
 ⟨let ⟨ev, h1, h2⟩ := h.s; ⟨ev, cell_keep h1 hb, h2⟩, let ⟨ev, h1, h2⟩ := h.r; ⟨ev, cell_keep h1 hb, h2⟩⟩
theorem parse_ok (s : Str) (n : Int) (w : World) (hs : s.length ≤ 1048576) (h : Lib.parseIntB 64 s = .ok n) :
  Calls Tryz.prog 176 #[.string ⟨s.toArray⟩, .int .i64 10, .int .i64 64] w fun e w' => e = .returned (.tuple #[.int .i64 n, .nilIface]) ∧ Below w.heap.size w w' := by
 refine (Tryz.strconv_ParseInt_10_at64_ok ⟨s.toArray⟩ (by show s.toArray.size ≤ _; simp; omega) n h w).mono ?_
 rintro e w' ⟨rfl, rfl | ⟨t, rfl⟩⟩
 ·exact ⟨rfl, Below.refl _ _⟩
 ·exact ⟨rfl, Lib.bytesWorld_below _ _ _⟩
theorem parse_bad (s : Str) (w : World) (hs : s.length ≤ 1048576) (h : ∀ n, Lib.parseIntB 64 s ≠ .ok n) (hE : ErrVars w) :
  Calls Tryz.prog 176 #[.string ⟨s.toArray⟩, .int .i64 10, .int .i64 64] w fun e w' => (∃ (k : Int) (t : TypeId) (p : Value), e = .returned (.tuple #[.int .i64 k, .iface t p])) ∧ Below w.heap.size w w' := by
 have hsz : (⟨s.toArray⟩ : ByteArray).size ≤ 281474976710656 := by show s.toArray.size ≤ _; simp; omega
 obtain ⟨ev, e1, e2⟩ := hE.s
 obtain ⟨fv, f1, f2⟩ := hE.r
 cases hp : Lib.parseIntB 64 s with
 | ok n => exact absurd hp (h n)
 | range =>
  refine (Tryz.strconv_ParseInt_10_at64_range ⟨s.toArray⟩ hsz hp fv w f1 f2).mono ?_
  rintro e w' ⟨N, rfl, -, -, hb⟩
  exact ⟨⟨_, _, _, rfl⟩, hb⟩
 | _ =>
  refine (Any.strconv_ParseInt_10_at64_syntax Tryz.laysC174 ⟨s.toArray⟩ hsz hp ev w e1 e2).mono ?_
  rintro e w' ⟨N, rfl, -, -, hb⟩
  exact ⟨⟨_, _, _, rfl⟩, hb⟩
theorem prefix_34 (s : Str) : Lib.hasPrefix s [34] = decide (s.head? = some 34) := by
 cases s with
 | nil => rfl
 | cons b r =>
  rw [Bool.eq_iff_iff, decide_eq_true_eq]
  simp [Lib.hasPrefix]
  exact eq_comm

set_option maxHeartbeats 4000000 in
theorem readRef_any (s : Str) (w : World) (hs : s.length ≤ 1048576) (hT : Tabs w) :
  Calls Tryz.prog 89 #[.string ⟨s.toArray⟩] w fun e w' => e = .returned (vRes (rdR s)) ∧ Below w.heap.size w w' := by
 have hbV : Below w.heap.size w (w.alloc (.cells #[.int .i64 0, .int .i64 0, .string ⟨#[]⟩] 26)) := by go_grown
 have hZ := ZBox.new w
 obtain ⟨V, hV⟩ : ∃ V, w.alloc (.cells #[.int .i64 0, .int .i64 0, .string ⟨#[]⟩] 26) = V := ⟨_, rfl⟩
 have HV := Lib.hid hV
 rw [hV] at hbV hZ
 clear hV
 by_cases ht : s = trueS
 ·subst ht
  clear HV hbV hZ
  go_enter Tryz.func89, Tryz.ntmps89
  go_wp2_with fail
  refine bodyPost_ret (v := vRes (2, 1, [], 0)) (by simp [results, Tryz.results89, go_sem]) rfl ⟨rfl, by go_grown⟩
 ·by_cases hf : s = falseS
  ·subst hf
   clear HV hbV hZ
   go_enter Tryz.func89, Tryz.ntmps89
   go_wp2_with fail
   refine bodyPost_ret (v := vRes (2, 0, [], 0)) (by simp [results, Tryz.results89, go_sem]) rfl ⟨rfl, by go_grown⟩
  ·have tb : (s == trueS) = false := by rw [beq_eq_false_iff_ne]; exact ht
   have fb : (s == falseS) = false := by rw [beq_eq_false_iff_ne]; exact hf
   have HREF : Hid (rdR s = rdQ (allQ s) (numR s)) := Lib.hid (by unfold rdR; rw [if_neg ht, if_neg hf])
   obtain ⟨RES, hRES⟩ : ∃ R, rdR s = R := ⟨_, rfl⟩
   rw [hRES]
   rw [hRES] at HREF
   have hqu := Lib.hid (quotedRef_any s V hs (hT.below hbV))
   clear ht hf hRES
   cases hq : allQ s with
   | some t =>
    rw [hq] at HREF
    obtain ⟨t', h1, h2⟩ : ∃ t', quotedR s = some (s.length, t') ∧ t' = t := by
     obtain ⟨⟨n, t'⟩, h1, h2⟩ := Option.bind_eq_some_iff.1 hq
     by_cases hn : n = s.length
     ·rw [if_pos hn] at h2
      injection h2 with h2
      exact ⟨t', by rw [h1, hn], h2⟩
     ·rw [if_neg hn] at h2
      cases h2
    subst h2
    rw [h1, show quRes (some (s.length, t')) = .returned (.tuple #[.int .i64 (s.length : Nat), .string ⟨t'.toArray⟩]) from rfl] at hqu
    have hpos : 0 < s.length := by
     unfold quotedR at h1
     split at h1
     ·rename_i h34
      cases s with
      | nil => simp at h34
      | cons _ _ => simp
     ·cases h1
    have hposz : (0 : Int) < (s.length : Int) := by omega
    clear h1 hq
    by_cases h100 : 100 < t'.length
    ·have hz100 : (100 : Int) < (t'.length : Int) := by omega
     have hres : RES = (0, 0, [], 2) := by rw [HREF.out]; exact if_pos h100
     subst hres
     clear HREF h100
     go_enter Tryz.func89, Tryz.ntmps89
     go_wp2_with fail
     rw [HV.out]
     refine hqu.out.mono ?_
     rintro e w1 ⟨rfl, hb1⟩
     have hZ1 := hZ.keep hb1
     have hbw := chain hbV hb1
     have K0 := hZ1.c0
     have K1 := hZ1.c1
     have K2 := hZ1.c2
     have kf0 := hZ1.f 0
     have kf1 := hZ1.f 1
     have kf2 := hZ1.f 2
     clear hb1 hZ hZ1
     go_wp2_with fail
     refine bodyPost_ret (v := vRes (0, 0, [], 2)) (by simp [results, Tryz.results89, go_sem, K0, K1, K2]) rfl ⟨rfl, box3 hbw _ _ _⟩
    ·have hz100 : ¬ (100 : Int) < (t'.length : Int) := by omega
     have hres : RES = (3, 0, t', 0) := by rw [HREF.out]; exact if_neg h100
     subst hres
     clear HREF h100
     go_enter Tryz.func89, Tryz.ntmps89
     go_wp2_with fail
     rw [HV.out]
     refine hqu.out.mono ?_
     rintro e w1 ⟨rfl, hb1⟩
     have hZ1 := hZ.keep hb1
     have hbw := chain hbV hb1
     have K0 := hZ1.c0
     have K1 := hZ1.c1
     have K2 := hZ1.c2
     have kf0 := hZ1.f 0
     have kf1 := hZ1.f 1
     have kf2 := hZ1.f 2
     clear hb1 hZ hZ1
     go_wp2_with fail
     refine bodyPost_ret (v := vRes (3, 0, t', 0)) (by simp [results, Tryz.results89, go_sem, K0, K1, K2]) rfl ⟨rfl, box3 hbw _ _ _⟩
   | none =>
    rw [hq] at HREF
    -- what Quoted says is not all of the text
    obtain ⟨k, u, hk, hku⟩ : ∃ (k : Int) (u : Str), quRes (quotedR s) = .returned (.tuple #[.int .i64 k, .string ⟨u.toArray⟩]) ∧ k ≠ (s.length : Int) := by
     cases h1 : quotedR s with
     | none => exact ⟨-1, [], rfl, by omega⟩
     | some x =>
      refine ⟨x.1, x.2, rfl, fun e => ?_⟩
      unfold allQ at hq
      rw [h1, Option.bind_some, if_pos (by omega)] at hq
      cases hq
    rw [hk] at hqu
    have hkb : (k == (s.length : Int)) = false := by rw [beq_eq_false_iff_ne]; exact hku
    clear hq hk hku
    cases hnum : numR s with
    | some n =>
     have hres : RES = (1, n, [], 0) := by rw [HREF.out, hnum]; rfl
     subst hres
     have HNUM := Lib.hid hnum
     clear HREF hnum
     go_enter Tryz.func89, Tryz.ntmps89
     go_wp2_with fail
     rw [HV.out]
     refine hqu.out.mono ?_
     rintro e w1 ⟨rfl, hb1⟩
     have hZ1 := hZ.keep hb1
     have hbw := chain hbV hb1
     clear hb1 hZ
     go_wp2_with fail
     refine (number_any s w1 hs).mono ?_
     rw [HNUM.out]
     rintro e w2 ⟨rfl, hb2⟩
     have hZ2 := hZ1.keep hb2
     have hbw2 := chain hbw hb2
     have K0 := hZ2.c0
     have K1 := hZ2.c1
     have K2 := hZ2.c2
     have kf0 := hZ2.f 0
     have kf1 := hZ2.f 1
     have kf2 := hZ2.f 2
     clear hb2 hZ1 hbw hZ2
     go_wp2_with fail
     refine bodyPost_ret (v := vRes (1, n, [], 0)) (by simp [results, Tryz.results89, go_sem, K0, K1, K2]) rfl ⟨rfl, box3 hbw2 _ _ _⟩
    | none =>
     have hres : RES = (0, 0, [], 3) := by rw [HREF.out, hnum]; rfl
     subst hres
     have HNUM := Lib.hid hnum
     clear HREF hnum
     go_enter Tryz.func89, Tryz.ntmps89
     go_wp2_with fail
     rw [HV.out]
     refine hqu.out.mono ?_
     rintro e w1 ⟨rfl, hb1⟩
     have hZ1 := hZ.keep hb1
     have hbw := chain hbV hb1
     clear hb1 hZ
     go_wp2_with fail
     refine (number_any s w1 hs).mono ?_
     rw [HNUM.out]
     rintro e w2 ⟨rfl, hb2⟩
     have hZ2 := hZ1.keep hb2
     have hbw2 := chain hbw hb2
     have K0 := hZ2.c0
     have K1 := hZ2.c1
     have K2 := hZ2.c2
     have kf0 := hZ2.f 0
     have kf1 := hZ2.f 1
     have kf2 := hZ2.f 2
     clear hb2 hZ1 hbw hZ2
     go_wp2_with fail
     refine bodyPost_ret (v := vRes (0, 0, [], 3)) (by simp [results, Tryz.results89, go_sem, K0, K1, K2]) rfl ⟨rfl, box3 hbw2 _ _ _⟩

set_option maxHeartbeats 4000000 in
theorem read_any (s : Str) (w : World) (hs : s.length ≤ 1048576) (hT : Tabs w) (hE : ErrVars w) (hP : PowTab w) :
  Calls Tryz.prog 151 #[.string ⟨s.toArray⟩] w fun e w' => e = .returned (vRes (rdP s)) ∧ Below w.heap.size w w' := by
 have hbV : Below w.heap.size w (w.alloc (.cells #[.int .i64 0, .int .i64 0, .string ⟨#[]⟩] 26)) := by go_grown
 have hZ := ZBox.new w
 obtain ⟨V, hV⟩ : ∃ V, w.alloc (.cells #[.int .i64 0, .int .i64 0, .string ⟨#[]⟩] 26) = V := ⟨_, rfl⟩
 have HV := Lib.hid hV
 rw [hV] at hbV hZ
 clear hV
 by_cases ht : s = trueS
 ·subst ht
  clear HV hbV hZ
  go_enter Tryz.func151, Tryz.ntmps151
  go_wp2_with fail
  refine bodyPost_ret (v := vRes (2, 1, [], 0)) (by simp [results, Tryz.results151, go_sem]) rfl ⟨rfl, by go_grown⟩
 ·by_cases hf : s = falseS
  ·subst hf
   clear HV hbV hZ
   go_enter Tryz.func151, Tryz.ntmps151
   go_wp2_with fail
   refine bodyPost_ret (v := vRes (2, 0, [], 0)) (by simp [results, Tryz.results151, go_sem]) rfl ⟨rfl, by go_grown⟩
  ·have tb : (s == trueS) = false := by rw [beq_eq_false_iff_ne]; exact ht
   have fb : (s == falseS) = false := by rw [beq_eq_false_iff_ne]; exact hf
   have hpre := fun W : World => Tryz.strings_HasPrefix ⟨s.toArray⟩ ⟨#[34]⟩ W
   have hpe : Lib.hasPrefix (⟨s.toArray⟩ : ByteArray).data.toList (⟨#[34]⟩ : ByteArray).data.toList = decide (s.head? = some 34) := prefix_34 s
   by_cases h34 : s.head? = some 34
   ·have hres : rdP s = qVal (pq (s.length - 1) (s.drop 1) []) := by unfold rdP; rw [if_neg ht, if_neg hf, if_pos h34]
    rw [hres]
    rw [decide_eq_true h34] at hpe
    have hpre := fun W => hpe ▸ hpre W
    have HPRE := Lib.hid hpre
    have hqu := Lib.hid (quoted_any s V hs h34 (hT.below hbV))
    obtain ⟨⟨r0, r1, r2, r3⟩, hR⟩ : ∃ R, qVal (pq (s.length - 1) (s.drop 1) []) = R := ⟨_, rfl⟩
    rw [hR] at hqu ⊢
    clear ht hf hres hpre hpe h34 hR
    go_enter Tryz.func151, Tryz.ntmps151
    go_wp2_with fail
    refine (HPRE.out _).mono ?_
    rintro e w0 ⟨rfl, rfl⟩
    go_wp2_with fail
    rw [HV.out]
    refine hqu.out.mono ?_
    rintro e w1 ⟨rfl, hb1⟩
    have hZ1 := hZ.keep hb1
    have hbw := chain hbV hb1
    have K0 := hZ1.c0
    have K1 := hZ1.c1
    have K2 := hZ1.c2
    have kf0 := hZ1.f 0
    have kf1 := hZ1.f 1
    have kf2 := hZ1.f 2
    clear hb1 hZ hZ1
    go_wp2_with fail
    refine bodyPost_ret (v := vRes (r0, r1, r2, r3)) (by simp [results, Tryz.results151, go_sem, K0, K1, K2]) rfl ⟨rfl, box3 hbw _ _ _⟩
   ·have hres : rdP s = nVal (numP s) := by unfold rdP; rw [if_neg ht, if_neg hf, if_neg h34]
    rw [hres]
    rw [decide_eq_false h34] at hpe
    have hpre := fun W => hpe ▸ hpre W
    have HPRE := Lib.hid hpre
    clear ht hf hres hpre hpe h34
    by_cases hok : ∃ n, Lib.parseIntB 64 s = .ok n
    ·obtain ⟨n, hok⟩ := hok
     have hbd := Lib.parseIntB_bounds hok
     have hn1 : -9223372036854775808 ≤ n := by have := hbd.1; omega
     have hn2 : n ≤ 9223372036854775807 := by have := hbd.2; omega
     have hpi := Lib.hid (parse_ok s n V hs hok)
     have hnp : numP s = if Lib.itoa n = s then some n else none := by unfold numP; rw [hok]
     clear hbd hok
     by_cases hi : Lib.itoa n = s
     ·have hib : (Lib.itoa n == s) = true := by rw [beq_iff_eq]; exact hi
      have hib2 : (Lib.itoa n != s) = false := by rw [bne_eq_false_iff_eq]; exact hi
      rw [hnp, if_pos hi, show nVal (some n) = (1, n, [], 0) from rfl]
      clear hi hnp
      go_enter Tryz.func151, Tryz.ntmps151
      go_wp2_with fail
      refine (HPRE.out _).mono ?_
      rintro e w0 ⟨rfl, rfl⟩
      go_wp2_with fail
      rw [HV.out]
      refine hpi.out.mono ?_
      rintro e w1 ⟨rfl, hb1⟩
      have hZ1 := hZ.keep hb1
      have hbw := chain hbV hb1
      clear hb1 hZ
      go_wp2_with fail
      refine (Tryz.strconv_FormatInt_10 n hn1 hn2 w1 (hP.below hbw)).mono ?_
      rintro e w2 ⟨rfl, k, os, hw2⟩
      have hb2 : Below w1.heap.size w1 w2 := by rw [hw2]; exact Lib.below_grow _ _ (Nat.le_refl _) _ _
      clear hw2
      have hZ2 := hZ1.keep hb2
      have hbw2 := chain hbw hb2
      have K0 := hZ2.c0
      have K1 := hZ2.c1
      have K2 := hZ2.c2
      have kf0 := hZ2.f 0
      have kf1 := hZ2.f 1
      have kf2 := hZ2.f 2
      clear hb2 hZ1 hbw hZ2
      go_wp2_with fail
      refine bodyPost_ret (v := vRes (1, n, [], 0)) (by simp [results, Tryz.results151, go_sem, K0, K1, K2]) rfl ⟨rfl, box3 hbw2 _ _ _⟩
     ·have hib : (Lib.itoa n == s) = false := by rw [beq_eq_false_iff_ne]; exact hi
      have hib2 : (Lib.itoa n != s) = true := by rw [bne_iff_ne]; exact hi
      rw [hnp, if_neg hi, show nVal none = (0, 0, [], 3) from rfl]
      clear hi hnp
      go_enter Tryz.func151, Tryz.ntmps151
      go_wp2_with fail
      refine (HPRE.out _).mono ?_
      rintro e w0 ⟨rfl, rfl⟩
      go_wp2_with fail
      rw [HV.out]
      refine hpi.out.mono ?_
      rintro e w1 ⟨rfl, hb1⟩
      have hZ1 := hZ.keep hb1
      have hbw := chain hbV hb1
      clear hb1 hZ
      go_wp2_with fail
      refine (Tryz.strconv_FormatInt_10 n hn1 hn2 w1 (hP.below hbw)).mono ?_
      rintro e w2 ⟨rfl, k, os, hw2⟩
      have hb2 : Below w1.heap.size w1 w2 := by rw [hw2]; exact Lib.below_grow _ _ (Nat.le_refl _) _ _
      clear hw2
      have hZ2 := hZ1.keep hb2
      have hbw2 := chain hbw hb2
      have K0 := hZ2.c0
      have K1 := hZ2.c1
      have K2 := hZ2.c2
      have kf0 := hZ2.f 0
      have kf1 := hZ2.f 1
      have kf2 := hZ2.f 2
      clear hb2 hZ1 hbw hZ2
      go_wp2_with fail
      refine bodyPost_ret (v := vRes (0, 0, [], 3)) (by simp [results, Tryz.results151, go_sem, K0, K1, K2]) rfl ⟨rfl, box3 hbw2 _ _ _⟩
    ·have hno : ∀ n, Lib.parseIntB 64 s ≠ .ok n := fun n e => hok ⟨n, e⟩
     have hnp : numP s = none := by
      unfold numP
      split
      ·rename_i m hm
       exact absurd hm (hno m)
      ·rfl
     have hpi := Lib.hid (parse_bad s V hs hno (hE.below hbV))
     rw [hnp, show nVal none = (0, 0, [], 3) from rfl]
     clear hno hnp hok
     go_enter Tryz.func151, Tryz.ntmps151
     go_wp2_with fail
     refine (HPRE.out _).mono ?_
     rintro e w0 ⟨rfl, rfl⟩
     go_wp2_with fail
     rw [HV.out]
     refine hpi.out.mono ?_
     rintro e w1 ⟨⟨k, tt, pp, rfl⟩, hb1⟩
     have hZ1 := hZ.keep hb1
     have hbw := chain hbV hb1
     have K0 := hZ1.c0
     have K1 := hZ1.c1
     have K2 := hZ1.c2
     have kf0 := hZ1.f 0
     have kf1 := hZ1.f 1
     have kf2 := hZ1.f 2
     clear hb1 hZ hZ1
     go_wp2_with fail
     refine bodyPost_ret (v := vRes (0, 0, [], 3)) (by simp [results, Tryz.results151, go_sem, K0, K1, K2]) rfl ⟨rfl, box3 hbw _ _ _⟩
set_option maxRecDepth 100000
structure RBox (w : World) (b : Nat) (l : Str) (p : Nat) : Prop where
 c0 : w.cell? ⟨b, 0, none⟩ = some (.string ⟨l.toArray⟩)
 c1 : w.cell? ⟨b, 1, none⟩ = some (.int .i64 p)
 fr : ∀ j, w.frozen? ⟨b, j, none⟩ = false
 lt : b < w.heap.size
theorem RBox.set {w : World} {b : Nat} {l : Str} {p : Nat} (h : RBox w b l p) (q : Nat) : RBox (w.setCell ⟨b, 1, none⟩ (.int .i64 q)) b l q :=
 ⟨(World.cell?_setCell_other _ _ _ _ (by simp)).trans h.c0, World.cell?_setCell_same' _ _ _ (by rw [h.c1]; rfl), fun j => by rw [World.frozen?_setCell]; exact h.fr j, by rw [World.size_setCell]; exact h.lt⟩
theorem RBox.keep {w w' : World} {b : Nat} {l : Str} {p : Nat} (h : RBox w b l p) (hb : Below w.heap.size w w') : RBox w' b l p :=
 ⟨cell_keep h.c0 hb, cell_keep h.c1 hb, fun j => (hb.frozen (p := ⟨b, j, none⟩) h.lt).trans (h.fr j), Nat.lt_of_lt_of_le h.lt hb.size⟩
theorem RBox.far {w : World} {b : Nat} {l : Str} {p : Nat} (h : RBox w b l p) {a : Addr} (ha : a.block ≠ b) (u : Value) : RBox (w.setCell a u) b l p :=
 ⟨(World.cell?_setCell_far w a _ u ha).trans h.c0, (World.cell?_setCell_far w a _ u ha).trans h.c1, fun j => by rw [World.frozen?_setCell]; exact h.fr j, by rw [World.size_setCell]; exact h.lt⟩
theorem grown_at (w : World) (b : Nat) (a : Nat) (u : Value) : w.grownBy (w.setCell ⟨b, a, none⟩ u) (some b) := by
 refine ⟨rfl, rfl, rfl, by rw [World.size_setCell]; exact Nat.le_refl _, fun q hl hne => ?_⟩
 unfold World.setCell
 simp only
 rw [Array.getElem?_modify, if_neg (fun e => hne (by rw [← e]))]
theorem grown_refl (w : World) (b : Nat) : w.grownBy w (some b) := ⟨rfl, rfl, rfl, Nat.le_refl _, fun _ _ _ => rfl⟩
theorem grown_trans {a b c : World} {row : Option Nat} (h1 : a.grownBy b row) (h2 : b.grownBy c row) : a.grownBy c row :=
 ⟨h2.os.trans h1.os, h2.tape.trans h1.tape, h2.output.trans h1.output, Nat.le_trans h1.size h2.size, fun q hl hne => (h2.block q (Nat.lt_of_lt_of_le hl h1.size) hne).trans (h1.block q hl hne)⟩
theorem grown_belowB {a w w' : World} {b : Nat} (h : a.grownBy w (some b)) (hb : Below w.heap.size w w') : a.grownBy w' (some b) :=
 grown_trans h ⟨hb.os, hb.tape, hb.output, hb.size, fun q hl _ => hb.block q hl⟩

theorem grown_drewN {a w : World} {row : Option Nat} (h : a.grownBy w row) (n : Nat) : a.grownBy (w.drewN n) row := ⟨h.os, h.tape, h.output, h.size, h.block⟩
theorem RBox.drewN {w : World} {b : Nat} {l : Str} {p : Nat} (h : RBox w b l p) (n : Nat) : RBox (w.drewN n) b l p := ⟨h.c0, h.c1, h.fr, h.lt⟩

theorem sk_step {l : Str} {p : Nat} (h : l[p]? = some 32) : sk l p = sk l (p + 1) := by
 unfold sk
 rw [drop_at h, List.takeWhile_cons]
 simp
 omega
theorem sk_stop {l : Str} {p : Nat} {x : UInt8} (h : l[p]? = some x) (hx : x ≠ 32) : sk l p = p := by
 unfold sk
 rw [drop_at h, List.takeWhile_cons]
 simp [hx]
theorem sk_end {l : Str} {p : Nat} (h : l.length ≤ p) : sk l p = p := by
 unfold sk
 rw [List.drop_eq_nil_of_le h]
 rfl

theorem trim_any' (l : Str) (w : World) :
  Calls Tryz.prog 123 #[.string ⟨l.toArray⟩, .string ⟨#[97, 98, 99, 100, 101, 102, 103, 104, 105, 106, 107, 108, 109, 110, 111, 112, 113, 114, 115, 116, 117, 118, 119, 120, 121, 122]⟩] w fun e w' => e = .returned (.string ⟨(l.dropWhile lowb).toArray⟩) ∧ Below w.heap.size w w' := by
 have h := Any.strings_TrimLeft_laid Tryz.lays161 (by kernel_rfl) ⟨l.toArray⟩ ⟨alphabet.toArray⟩ w (by decide) (ascii_of_all (by decide +kernel))
 have e : Lib.trimLeftS l alphabet = l.dropWhile lowb := by
  unfold Lib.trimLeftS
  congr 1
  funext x
  exact alphabet_has x
 simp only at h
 rw [e] at h
 exact h
set_option maxRecDepth 100000
theorem take_tw (p : UInt8 → Bool) (l : Str) : l.take (l.takeWhile p).length = l.takeWhile p := (List.prefix_iff_eq_take.1 (List.takeWhile_prefix p)).symm
def pcV (c : Pc) : Value := .agg #[.string ⟨c.text.toArray⟩, .int .i64 c.vs, .int .i64 c.vn, .string ⟨c.vt.toArray⟩, .bool c.lit, .int .i64 (c.at_ : Int), .int .i64 (c.to_ : Int), .int .i64 c.bad, .bool c.word]
def zeroPc : Pc := ⟨[], 0, 0, [], false, 0, 0, 0, false⟩
structure PcBox (w : World) (b : Nat) (c : Pc) : Prop where
 c0 : w.cell? ⟨b, 0, none⟩ = some (.string ⟨c.text.toArray⟩)
 c1 : w.cell? ⟨b, 1, none⟩ = some (.int .i64 c.vs)
 c2 : w.cell? ⟨b, 2, none⟩ = some (.int .i64 c.vn)
 c3 : w.cell? ⟨b, 3, none⟩ = some (.string ⟨c.vt.toArray⟩)
 c4 : w.cell? ⟨b, 4, none⟩ = some (.bool c.lit)
 c5 : w.cell? ⟨b, 5, none⟩ = some (.int .i64 (c.at_ : Int))
 c6 : w.cell? ⟨b, 6, none⟩ = some (.int .i64 (c.to_ : Int))
 c7 : w.cell? ⟨b, 7, none⟩ = some (.int .i64 c.bad)
 c8 : w.cell? ⟨b, 8, none⟩ = some (.bool c.word)
 fr : ∀ j, w.frozen? ⟨b, j, none⟩ = false
 lt : b < w.heap.size
theorem PcBox.keep {w w' : World} {b : Nat} {c : Pc} (h : PcBox w b c) (hb : Below w.heap.size w w') : PcBox w' b c :=
 ⟨cell_keep h.c0 hb, cell_keep h.c1 hb, cell_keep h.c2 hb, cell_keep h.c3 hb, cell_keep h.c4 hb, cell_keep h.c5 hb, cell_keep h.c6 hb, cell_keep h.c7 hb, cell_keep h.c8 hb, fun j => (hb.frozen (p := ⟨b, j, none⟩) h.lt).trans (h.fr j), Nat.lt_of_lt_of_le h.lt hb.size⟩
theorem PcBox.grown {w w' : World} {b : Nat} {row : Option Nat} {c : Pc} (h : PcBox w b c) (hg : w.grownBy w' row) (hb : some b ≠ row) : PcBox w' b c := by
 have hc : ∀ j, w'.cell? ⟨b, j, none⟩ = w.cell? ⟨b, j, none⟩ := fun j => World.cell?_of_block (a := ⟨b, j, none⟩) (hg.block b h.lt hb)
 exact ⟨(hc 0).trans h.c0, (hc 1).trans h.c1, (hc 2).trans h.c2, (hc 3).trans h.c3, (hc 4).trans h.c4, (hc 5).trans h.c5, (hc 6).trans h.c6, (hc 7).trans h.c7, (hc 8).trans h.c8, fun j => (World.frozen?_of_block (a := ⟨b, j, none⟩) (hg.block b h.lt hb)).trans (h.fr j), Nat.lt_of_lt_of_le h.lt hg.size⟩
theorem PcBox.far {w : World} {b : Nat} {c : Pc} (h : PcBox w b c) {p : Addr} (hp : p.block ≠ b) (u : Value) : PcBox (w.setCell p u) b c :=
 ⟨(World.cell?_setCell_far w p _ u hp).trans h.c0, (World.cell?_setCell_far w p _ u hp).trans h.c1, (World.cell?_setCell_far w p _ u hp).trans h.c2, (World.cell?_setCell_far w p _ u hp).trans h.c3, (World.cell?_setCell_far w p _ u hp).trans h.c4, (World.cell?_setCell_far w p _ u hp).trans h.c5, (World.cell?_setCell_far w p _ u hp).trans h.c6, (World.cell?_setCell_far w p _ u hp).trans h.c7, (World.cell?_setCell_far w p _ u hp).trans h.c8, fun j => by rw [World.frozen?_setCell]; exact h.fr j, by rw [World.size_setCell]; exact h.lt⟩
theorem PcBox.set0 {w : World} {b : Nat} {c : Pc} (h : PcBox w b c) (x : Str) : PcBox (w.setCell ⟨b, 0, none⟩ (.string ⟨x.toArray⟩)) b { c with text := x } :=
 ⟨World.cell?_setCell_same' _ _ _ (by rw [h.c0]; rfl), (World.cell?_setCell_other _ _ _ _ (by simp)).trans h.c1, (World.cell?_setCell_other _ _ _ _ (by simp)).trans h.c2, (World.cell?_setCell_other _ _ _ _ (by simp)).trans h.c3, (World.cell?_setCell_other _ _ _ _ (by simp)).trans h.c4, (World.cell?_setCell_other _ _ _ _ (by simp)).trans h.c5, (World.cell?_setCell_other _ _ _ _ (by simp)).trans h.c6, (World.cell?_setCell_other _ _ _ _ (by simp)).trans h.c7, (World.cell?_setCell_other _ _ _ _ (by simp)).trans h.c8, fun j => by rw [World.frozen?_setCell]; exact h.fr j, by rw [World.size_setCell]; exact h.lt⟩
theorem PcBox.set1 {w : World} {b : Nat} {c : Pc} (h : PcBox w b c) (x : Int) : PcBox (w.setCell ⟨b, 1, none⟩ (.int .i64 x)) b { c with vs := x } :=
 ⟨(World.cell?_setCell_other _ _ _ _ (by simp)).trans h.c0, World.cell?_setCell_same' _ _ _ (by rw [h.c1]; rfl), (World.cell?_setCell_other _ _ _ _ (by simp)).trans h.c2, (World.cell?_setCell_other _ _ _ _ (by simp)).trans h.c3, (World.cell?_setCell_other _ _ _ _ (by simp)).trans h.c4, (World.cell?_setCell_other _ _ _ _ (by simp)).trans h.c5, (World.cell?_setCell_other _ _ _ _ (by simp)).trans h.c6, (World.cell?_setCell_other _ _ _ _ (by simp)).trans h.c7, (World.cell?_setCell_other _ _ _ _ (by simp)).trans h.c8, fun j => by rw [World.frozen?_setCell]; exact h.fr j, by rw [World.size_setCell]; exact h.lt⟩
theorem PcBox.set2 {w : World} {b : Nat} {c : Pc} (h : PcBox w b c) (x : Int) : PcBox (w.setCell ⟨b, 2, none⟩ (.int .i64 x)) b { c with vn := x } :=
 ⟨(World.cell?_setCell_other _ _ _ _ (by simp)).trans h.c0, (World.cell?_setCell_other _ _ _ _ (by simp)).trans h.c1, World.cell?_setCell_same' _ _ _ (by rw [h.c2]; rfl), (World.cell?_setCell_other _ _ _ _ (by simp)).trans h.c3, (World.cell?_setCell_other _ _ _ _ (by simp)).trans h.c4, (World.cell?_setCell_other _ _ _ _ (by simp)).trans h.c5, (World.cell?_setCell_other _ _ _ _ (by simp)).trans h.c6, (World.cell?_setCell_other _ _ _ _ (by simp)).trans h.c7, (World.cell?_setCell_other _ _ _ _ (by simp)).trans h.c8, fun j => by rw [World.frozen?_setCell]; exact h.fr j, by rw [World.size_setCell]; exact h.lt⟩
theorem PcBox.set3 {w : World} {b : Nat} {c : Pc} (h : PcBox w b c) (x : Str) : PcBox (w.setCell ⟨b, 3, none⟩ (.string ⟨x.toArray⟩)) b { c with vt := x } :=
 ⟨(World.cell?_setCell_other _ _ _ _ (by simp)).trans h.c0, (World.cell?_setCell_other _ _ _ _ (by simp)).trans h.c1, (World.cell?_setCell_other _ _ _ _ (by simp)).trans h.c2, World.cell?_setCell_same' _ _ _ (by rw [h.c3]; rfl), (World.cell?_setCell_other _ _ _ _ (by simp)).trans h.c4, (World.cell?_setCell_other _ _ _ _ (by simp)).trans h.c5, (World.cell?_setCell_other _ _ _ _ (by simp)).trans h.c6, (World.cell?_setCell_other _ _ _ _ (by simp)).trans h.c7, (World.cell?_setCell_other _ _ _ _ (by simp)).trans h.c8, fun j => by rw [World.frozen?_setCell]; exact h.fr j, by rw [World.size_setCell]; exact h.lt⟩
theorem PcBox.set4 {w : World} {b : Nat} {c : Pc} (h : PcBox w b c) (x : Bool) : PcBox (w.setCell ⟨b, 4, none⟩ (.bool x)) b { c with lit := x } :=
 ⟨(World.cell?_setCell_other _ _ _ _ (by simp)).trans h.c0, (World.cell?_setCell_other _ _ _ _ (by simp)).trans h.c1, (World.cell?_setCell_other _ _ _ _ (by simp)).trans h.c2, (World.cell?_setCell_other _ _ _ _ (by simp)).trans h.c3, World.cell?_setCell_same' _ _ _ (by rw [h.c4]; rfl), (World.cell?_setCell_other _ _ _ _ (by simp)).trans h.c5, (World.cell?_setCell_other _ _ _ _ (by simp)).trans h.c6, (World.cell?_setCell_other _ _ _ _ (by simp)).trans h.c7, (World.cell?_setCell_other _ _ _ _ (by simp)).trans h.c8, fun j => by rw [World.frozen?_setCell]; exact h.fr j, by rw [World.size_setCell]; exact h.lt⟩
theorem PcBox.set5 {w : World} {b : Nat} {c : Pc} (h : PcBox w b c) (x : Nat) : PcBox (w.setCell ⟨b, 5, none⟩ (.int .i64 (x : Int))) b { c with at_ := x } :=
 ⟨(World.cell?_setCell_other _ _ _ _ (by simp)).trans h.c0, (World.cell?_setCell_other _ _ _ _ (by simp)).trans h.c1, (World.cell?_setCell_other _ _ _ _ (by simp)).trans h.c2, (World.cell?_setCell_other _ _ _ _ (by simp)).trans h.c3, (World.cell?_setCell_other _ _ _ _ (by simp)).trans h.c4, World.cell?_setCell_same' _ _ _ (by rw [h.c5]; rfl), (World.cell?_setCell_other _ _ _ _ (by simp)).trans h.c6, (World.cell?_setCell_other _ _ _ _ (by simp)).trans h.c7, (World.cell?_setCell_other _ _ _ _ (by simp)).trans h.c8, fun j => by rw [World.frozen?_setCell]; exact h.fr j, by rw [World.size_setCell]; exact h.lt⟩
theorem PcBox.set6 {w : World} {b : Nat} {c : Pc} (h : PcBox w b c) (x : Nat) : PcBox (w.setCell ⟨b, 6, none⟩ (.int .i64 (x : Int))) b { c with to_ := x } :=
 ⟨(World.cell?_setCell_other _ _ _ _ (by simp)).trans h.c0, (World.cell?_setCell_other _ _ _ _ (by simp)).trans h.c1, (World.cell?_setCell_other _ _ _ _ (by simp)).trans h.c2, (World.cell?_setCell_other _ _ _ _ (by simp)).trans h.c3, (World.cell?_setCell_other _ _ _ _ (by simp)).trans h.c4, (World.cell?_setCell_other _ _ _ _ (by simp)).trans h.c5, World.cell?_setCell_same' _ _ _ (by rw [h.c6]; rfl), (World.cell?_setCell_other _ _ _ _ (by simp)).trans h.c7, (World.cell?_setCell_other _ _ _ _ (by simp)).trans h.c8, fun j => by rw [World.frozen?_setCell]; exact h.fr j, by rw [World.size_setCell]; exact h.lt⟩
theorem PcBox.set7 {w : World} {b : Nat} {c : Pc} (h : PcBox w b c) (x : Int) : PcBox (w.setCell ⟨b, 7, none⟩ (.int .i64 x)) b { c with bad := x } :=
 ⟨(World.cell?_setCell_other _ _ _ _ (by simp)).trans h.c0, (World.cell?_setCell_other _ _ _ _ (by simp)).trans h.c1, (World.cell?_setCell_other _ _ _ _ (by simp)).trans h.c2, (World.cell?_setCell_other _ _ _ _ (by simp)).trans h.c3, (World.cell?_setCell_other _ _ _ _ (by simp)).trans h.c4, (World.cell?_setCell_other _ _ _ _ (by simp)).trans h.c5, (World.cell?_setCell_other _ _ _ _ (by simp)).trans h.c6, World.cell?_setCell_same' _ _ _ (by rw [h.c7]; rfl), (World.cell?_setCell_other _ _ _ _ (by simp)).trans h.c8, fun j => by rw [World.frozen?_setCell]; exact h.fr j, by rw [World.size_setCell]; exact h.lt⟩
theorem PcBox.set8 {w : World} {b : Nat} {c : Pc} (h : PcBox w b c) (x : Bool) : PcBox (w.setCell ⟨b, 8, none⟩ (.bool x)) b { c with word := x } :=
 ⟨(World.cell?_setCell_other _ _ _ _ (by simp)).trans h.c0, (World.cell?_setCell_other _ _ _ _ (by simp)).trans h.c1, (World.cell?_setCell_other _ _ _ _ (by simp)).trans h.c2, (World.cell?_setCell_other _ _ _ _ (by simp)).trans h.c3, (World.cell?_setCell_other _ _ _ _ (by simp)).trans h.c4, (World.cell?_setCell_other _ _ _ _ (by simp)).trans h.c5, (World.cell?_setCell_other _ _ _ _ (by simp)).trans h.c6, (World.cell?_setCell_other _ _ _ _ (by simp)).trans h.c7, World.cell?_setCell_same' _ _ _ (by rw [h.c8]; rfl), fun j => by rw [World.frozen?_setCell]; exact h.fr j, by rw [World.size_setCell]; exact h.lt⟩
theorem PcBox.fill {w : World} {b : Nat} {c0 : Pc} (h : PcBox w b c0) (c : Pc) : PcBox (((((((((w.setCell ⟨b, 0, none⟩ (.string ⟨c.text.toArray⟩)).setCell ⟨b, 1, none⟩ (.int .i64 c.vs)).setCell ⟨b, 2, none⟩ (.int .i64 c.vn)).setCell ⟨b, 3, none⟩ (.string ⟨c.vt.toArray⟩)).setCell ⟨b, 4, none⟩ (.bool c.lit)).setCell ⟨b, 5, none⟩ (.int .i64 (c.at_ : Int))).setCell ⟨b, 6, none⟩ (.int .i64 (c.to_ : Int))).setCell ⟨b, 7, none⟩ (.int .i64 c.bad)).setCell ⟨b, 8, none⟩ (.bool c.word)) b c :=
 ((((((((h.set0 c.text).set1 c.vs).set2 c.vn).set3 c.vt).set4 c.lit).set5 c.at_).set6 c.to_).set7 c.bad).set8 c.word
theorem below_fillPc {B : Nat} {a w : World} (h : Below B a w) {b : Nat} (hb : B ≤ b) (x0 x1 x2 x3 x4 x5 x6 x7 x8 : Value) : Below B a (((((((((w.setCell ⟨b, 0, none⟩ (x0)).setCell ⟨b, 1, none⟩ (x1)).setCell ⟨b, 2, none⟩ (x2)).setCell ⟨b, 3, none⟩ (x3)).setCell ⟨b, 4, none⟩ (x4)).setCell ⟨b, 5, none⟩ (x5)).setCell ⟨b, 6, none⟩ (x6)).setCell ⟨b, 7, none⟩ (x7)).setCell ⟨b, 8, none⟩ (x8)) :=
 ((((((((h.setCell hb _).setCell hb _).setCell hb _).setCell hb _).setCell hb _).setCell hb _).setCell hb _).setCell hb _).setCell hb _
theorem new_pcbox (w : World) (c : Pc) (E : TypeId) : PcBox (w.alloc (.cells #[.string ⟨c.text.toArray⟩, .int .i64 c.vs, .int .i64 c.vn, .string ⟨c.vt.toArray⟩, .bool c.lit, .int .i64 (c.at_ : Int), .int .i64 (c.to_ : Int), .int .i64 c.bad, .bool c.word] E)) w.heap.size c :=
 ⟨by simp [go_sem], by simp [go_sem], by simp [go_sem], by simp [go_sem], by simp [go_sem], by simp [go_sem], by simp [go_sem], by simp [go_sem], by simp [go_sem], fun j => by simp [go_sem], by simp⟩
theorem pc_finish {w w2 WF : World} {X : Nat} {c0 c : Pc} (hX : w.heap.size ≤ X) (hb : Below w.heap.size w w2) (XB : PcBox w2 X c0) (hW : (((((((((w2.setCell ⟨X, 0, none⟩ (.string ⟨c.text.toArray⟩)).setCell ⟨X, 1, none⟩ (.int .i64 c.vs)).setCell ⟨X, 2, none⟩ (.int .i64 c.vn)).setCell ⟨X, 3, none⟩ (.string ⟨c.vt.toArray⟩)).setCell ⟨X, 4, none⟩ (.bool c.lit)).setCell ⟨X, 5, none⟩ (.int .i64 (c.at_ : Int))).setCell ⟨X, 6, none⟩ (.int .i64 (c.to_ : Int))).setCell ⟨X, 7, none⟩ (.int .i64 c.bad)).setCell ⟨X, 8, none⟩ (.bool c.word)) = WF) : PcBox WF X c ∧ Below w.heap.size w WF := by
 subst hW
 exact ⟨XB.fill c, below_fillPc hb hX _ _ _ _ _ _ _ _ _⟩
end Go.Proofs.YtpidjanngbaiiaaGreatDoor
