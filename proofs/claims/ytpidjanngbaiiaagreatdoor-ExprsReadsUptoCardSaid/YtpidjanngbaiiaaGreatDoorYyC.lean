/-
  The reference's pieces of an expression's text: the walk: words, quoted texts.
-/
import Derived.Test.YtpidjanngbaiiaaGreatDoorM8
namespace Go.Proofs.YtpidjanngbaiiaaGreatDoor
open Go.RowKit Go.Proofs

set_option maxRecDepth 100000
set_option maxHeartbeats 4000000 in
theorem pc_end (l : Str) (p q : Nat) (op : Bool) (w : World) (hl : l.length ≤ 2000) (hp : p ≤ l.length) (hq : sk l p = q) (hql : q ≤ l.length) (h0 : q = l.length) :
  Calls Tryz.prog 56 #[.string ⟨l.toArray⟩, .int .i64 p, .bool op] w fun e w' => e = .returned (pcV ⟨[], 0, 0, [], false, q, q, 0, false⟩) ∧ Below w.heap.size w w' := by
 go_enter Tryz.func56, Tryz.ntmps56
 go_wp2_with fail
 have XB := new_pcbox w zeroPc 114
 have hbW : Below w.heap.size w (w.alloc (.cells #[.string ⟨#[]⟩, .int .i64 0, .int .i64 0, .string ⟨#[]⟩, .bool false, .int .i64 0, .int .i64 0, .int .i64 0, .bool false] 114)) := by go_grown
 change PcBox (w.alloc (.cells #[.string ⟨#[]⟩, .int .i64 0, .int .i64 0, .string ⟨#[]⟩, .bool false, .int .i64 0, .int .i64 0, .int .i64 0, .bool false] 114)) _ _ at XB
 generalize w.alloc (.cells #[.string ⟨#[]⟩, .int .i64 0, .int .i64 0, .string ⟨#[]⟩, .bool false, .int .i64 0, .int .i64 0, .int .i64 0, .bool false] 114) = w0 at XB hbW ⊢
 have HQ := Lib.hid hq
 clear hq
 go_loop [1] (fun i => ∃ k : Nat, k ≤ l.length ∧ i = .int .i64 k ∧ Hid (sk l k = q)) (fun i => l.length - (intOf i).toNat)
 case atStart => exact ⟨p, hp, rfl, HQ⟩
 case round =>
  obtain ⟨k, hk, rfl, hf⟩ := hrel
  by_cases hk32 : l[k]? = some 32
  ·have hlt : k < l.length := (List.getElem?_eq_some_iff.1 hk32).1
   have E : (⟨l.toArray⟩ : ByteArray)[k]'(by simpa [ByteArray.size] using hlt) = 32 := byte_at' hk32 _
   have hlt' : (k : Int) < (l.length : Int) := by omega
   have hf' := Lib.hid ((sk_step hk32).symm.trans hf.out)
   clear hk32 hf
   go_wp2_with fail
   go_round
   case rel => exact ⟨k + 1, by omega, by go_num, hf'⟩
   case measure => simp [intOf]; omega
  have hkq : k = q := by
   rw [← hf.out]
   cases hx : l[k]? with
   | none => exact (sk_end (List.getElem?_eq_none_iff.1 hx)).symm
   | some x => exact (sk_stop hx (fun e => hk32 (by rw [hx, e]))).symm
  rename_i K1 h1 hww
  have H1 := Lib.hid h1
  clear h1 hf HQ hk hp hww
  obtain rfl := hkq
  have hq' : ¬ (k : Int) < (l.length : Int) := by omega
  have hq2 : ((k : Int) == (l.length : Int)) = true := by rw [beq_iff_eq]; omega
  clear hk32 h0
  go_wp2_with fail
  refine H1.out _ _ ?_
  clear H1
  go_step
  rename_i K2 h2
  have H2 := Lib.hid h2
  clear h2
  go_wp2_with fail
  have hX : w.heap.size < w0.heap.size := XB.lt
  have PB := new_pcbox w0 ⟨[], 0, 0, [], false, k, k, 0, false⟩ 114
  have hb1 : Below w0.heap.size w0 (w0.alloc (.cells #[.string ⟨#[]⟩, .int .i64 0, .int .i64 0, .string ⟨#[]⟩, .bool false, .int .i64 (k : Int), .int .i64 (k : Int), .int .i64 0, .bool false] 114)) := (Below.refl _ _).alloc (Nat.le_refl _) _
  change PcBox (w0.alloc (.cells #[.string ⟨#[]⟩, .int .i64 0, .int .i64 0, .string ⟨#[]⟩, .bool false, .int .i64 (k : Int), .int .i64 (k : Int), .int .i64 0, .bool false] 114)) _ _ at PB
  have XB1 := XB.keep hb1
  have hbW1 := chain hbW hb1
  generalize w0.alloc (.cells #[.string ⟨#[]⟩, .int .i64 0, .int .i64 0, .string ⟨#[]⟩, .bool false, .int .i64 (k : Int), .int .i64 (k : Int), .int .i64 0, .bool false] 114) = w1 at PB hb1 XB1 hbW1 ⊢
  clear hb1 XB hbW
  generalize w0.heap.size = X at PB hX ⊢
  try clear w0
  have hd1 : ¬ w.heap.size = X := by omega
  have hd2 : ¬ X = w.heap.size := by omega
  refine H2.out _ _ ?_
  clear H2
  go_step
  go_step
  rename_i K3 h3
  have H3 := Lib.hid h3
  clear h3
  go_wp2_with fail
  refine H3.out _ _ ?_
  clear H3
  go_step
  go_step
  rename_i K9 h9
  have H9 := Lib.hid h9
  clear h9
  obtain ⟨p0, p1, p2, p3, p4, p5, p6, p7, p8, p9, p10⟩ := id PB
  obtain ⟨x0, x1, x2, x3, x4, x5, x6, x7, x8, x9, x10⟩ := id XB1
  go_wp2_with fail
  obtain ⟨WF, hW⟩ : ∃ wF, (((((((((w1.setCell ⟨w.heap.size, 0, none⟩ (.string ⟨#[]⟩)).setCell ⟨w.heap.size, 1, none⟩ (.int .i64 0)).setCell ⟨w.heap.size, 2, none⟩ (.int .i64 0)).setCell ⟨w.heap.size, 3, none⟩ (.string ⟨#[]⟩)).setCell ⟨w.heap.size, 4, none⟩ (.bool false)).setCell ⟨w.heap.size, 5, none⟩ (.int .i64 (k : Int))).setCell ⟨w.heap.size, 6, none⟩ (.int .i64 (k : Int))).setCell ⟨w.heap.size, 7, none⟩ (.int .i64 0)).setCell ⟨w.heap.size, 8, none⟩ (.bool false)) = wF := ⟨_, rfl⟩
  rw [hW]
  obtain ⟨hF, hbF⟩ := pc_finish (c := ⟨[], 0, 0, [], false, k, k, 0, false⟩) (Nat.le_refl _) hbW1 XB1 hW
  clear hW p0 p1 p2 p3 p4 p5 p6 p7 p8 p9 p10 x0 x1 x2 x3 x4 x5 x6 x7 x8 x9 x10
  obtain ⟨d0, d1, d2, d3, d4, d5, d6, d7, d8, d9, d10⟩ := hF
  refine H9.out _ _ ?_
  clear H9
  go_step
  (try simp only [Exit.inBlock, Exit.then])
  refine bodyPost_ret (v := pcV ⟨[], 0, 0, [], false, k, k, 0, false⟩) ?_ ?_ ?_
  ·simp [results, Tryz.results56, go_sem, d0, d1, d2, d3, d4, d5, d6, d7, d8, pcV]
  ·rfl
  ·exact ⟨rfl, hbF⟩
set_option maxHeartbeats 4000000 in
theorem pc_word (l : Str) (p q : Nat) (op : Bool) (w : World) (hl : l.length ≤ 2000) (hp : p ≤ l.length) (hq : sk l p = q) (hql : q ≤ l.length) (x : UInt8) (hx : l[q]? = some x) (W : Str) (hW : Hid (wd l q = W)) (z : Nat) (hz : Hid (q + ((l.drop q).takeWhile lowb).length = z)) (hzq : q < z) (n1 : (W == [116, 114, 117, 101]) = false) (n2 : (W == [102, 97, 108, 115, 101]) = false) :
    Calls Tryz.prog 56 #[.string ⟨l.toArray⟩, .int .i64 p, .bool op] w fun e w' => e = .returned (pcV ⟨W, 0, 0, [], false, q, z, 0, true⟩) ∧ Below w.heap.size w w' := by
  go_enter Tryz.func56, Tryz.ntmps56
  go_wp2_with fail
  have XB := new_pcbox w zeroPc 114
  have hbW : Below w.heap.size w (w.alloc (.cells #[.string ⟨#[]⟩, .int .i64 0, .int .i64 0, .string ⟨#[]⟩, .bool false, .int .i64 0, .int .i64 0, .int .i64 0, .bool false] 114)) := by go_grown
  change PcBox (w.alloc (.cells #[.string ⟨#[]⟩, .int .i64 0, .int .i64 0, .string ⟨#[]⟩, .bool false, .int .i64 0, .int .i64 0, .int .i64 0, .bool false] 114)) _ _ at XB
  generalize w.alloc (.cells #[.string ⟨#[]⟩, .int .i64 0, .int .i64 0, .string ⟨#[]⟩, .bool false, .int .i64 0, .int .i64 0, .int .i64 0, .bool false] 114) = w0 at XB hbW ⊢
  have HQ := Lib.hid hq
  clear hq
  go_loop [1] (fun i => ∃ k : Nat, k ≤ l.length ∧ i = .int .i64 k ∧ Hid (sk l k = q)) (fun i => l.length - (intOf i).toNat)
  case atStart => exact ⟨p, hp, rfl, HQ⟩
  case round =>
    obtain ⟨k, hk, rfl, hf⟩ := hrel
    by_cases hk32 : l[k]? = some 32
    · have hlt : k < l.length := (List.getElem?_eq_some_iff.1 hk32).1
      have E : (⟨l.toArray⟩ : ByteArray)[k]'(by simpa [ByteArray.size] using hlt) = 32 := byte_at' hk32 _
      have hlt' : (k : Int) < (l.length : Int) := by omega
      have hf' := Lib.hid ((sk_step hk32).symm.trans hf.out)
      clear hk32 hf
      go_wp2_with fail
      go_round
      case rel => exact ⟨k + 1, by omega, by go_num, hf'⟩
      case measure => simp [intOf]; omega
    have hkq : k = q := by
      rw [← hf.out]
      cases hx : l[k]? with
      | none => exact (sk_end (List.getElem?_eq_none_iff.1 hx)).symm
      | some x => exact (sk_stop hx (fun e => hk32 (by rw [hx, e]))).symm
    rename_i K1 h1 hww
    have H1 := Lib.hid h1
    clear h1 hf HQ hk hp hww
    obtain rfl := hkq
    have hx' := hx
    have hlt : k < l.length := (List.getElem?_eq_some_iff.1 hx).1
    have E : (⟨l.toArray⟩ : ByteArray)[k]'(by simpa [ByteArray.size] using hlt) = x := byte_at' hx _
    have hlt' : (k : Int) < (l.length : Int) := by omega
    have hx32 : ((x.toNat : Int) == 32) = false := by
      rw [beq_eq_false_iff_ne]
      intro e
      exact hk32 (by rw [hx]; exact congrArg some (UInt8.toNat.inj (by simpa using (by omega : x.toNat = 32))))
    have hq2 : ((k : Int) == (l.length : Int)) = false := by rw [beq_eq_false_iff_ne]; omega
    clear hk32
    have HX := Lib.hid hx'
    clear hx hx'
    go_wp2_with fail
    refine H1.out _ _ ?_
    clear H1
    go_step
    rename_i K2 h2
    have H2 := Lib.hid h2
    clear h2
    go_wp2_with fail
    have hX : w.heap.size < w0.heap.size := XB.lt
    have PB := new_pcbox w0 ⟨[], 0, 0, [], false, k, k, 0, false⟩ 114
    have hb1 : Below w0.heap.size w0 (w0.alloc (.cells #[.string ⟨#[]⟩, .int .i64 0, .int .i64 0, .string ⟨#[]⟩, .bool false, .int .i64 (k : Int), .int .i64 (k : Int), .int .i64 0, .bool false] 114)) := (Below.refl _ _).alloc (Nat.le_refl _) _
    change PcBox (w0.alloc (.cells #[.string ⟨#[]⟩, .int .i64 0, .int .i64 0, .string ⟨#[]⟩, .bool false, .int .i64 (k : Int), .int .i64 (k : Int), .int .i64 0, .bool false] 114)) _ _ at PB
    have XB1 := XB.keep hb1
    have hbW1 := chain hbW hb1
    generalize w0.alloc (.cells #[.string ⟨#[]⟩, .int .i64 0, .int .i64 0, .string ⟨#[]⟩, .bool false, .int .i64 (k : Int), .int .i64 (k : Int), .int .i64 0, .bool false] 114) = w1 at PB hb1 XB1 hbW1 ⊢
    clear hb1 XB hbW
    generalize w0.heap.size = X at PB hX ⊢
    try clear w0
    have hd1 : ¬ w.heap.size = X := by omega
    have hd2 : ¬ X = w.heap.size := by omega
    refine H2.out _ _ ?_
    clear H2
    go_step
    rename_i K3 h3
    have H3 := Lib.hid h3
    clear h3
    go_wp2_with fail
    refine H3.out _ _ ?_
    clear H3
    go_step
    rename_i K4 h4
    have H4 := Lib.hid h4
    clear h4
    go_step
    go_loopg [] l.length (fun gk wr => ∃ j : Nat, k ≤ j ∧ j ≤ l.length ∧ l.length ≤ gk + j ∧ Hid (j + ((l.drop j).takeWhile lowb).length = z) ∧ PcBox wr X ⟨[], 0, 0, [], false, k, j, 0, false⟩ ∧ PcBox wr w.heap.size zeroPc ∧ Below w.heap.size w wr)
    case atStart => exact ⟨k, Nat.le_refl _, hql, by omega, hz, PB, XB1, hbW1⟩
    case round =>
    clear PB XB1 hbW1
    obtain ⟨j, hkj, hj, hgk, hf, PBj, XBj, hbj⟩ := hrel
    obtain ⟨p0, p1, p2, p3, p4, p5, p6, p7, p8, p9, p10⟩ := id PBj
    by_cases hlow : (l[j]?.map lowb) = some true
    · obtain ⟨y, hy, hyl⟩ : ∃ y, l[j]? = some y ∧ lowb y = true := by
        cases h : l[j]? with
        | none => rw [h] at hlow; simp at hlow
        | some y => rw [h] at hlow; exact ⟨y, rfl, by simpa using hlow⟩
      have hjl : j < l.length := (List.getElem?_eq_some_iff.1 hy).1
      have E2 : (⟨l.toArray⟩ : ByteArray)[j]'(by simpa [ByteArray.size] using hjl) = y := byte_at' hy _
      have hjl' : (j : Int) < (l.length : Int) := by omega
      have hr : 97 ≤ y.toNat ∧ y.toNat ≤ 122 := by simpa [lowb] using hyl
      have c1 : (97 : Int) ≤ (y.toNat : Int) := by omega
      have c2 : (y.toNat : Int) ≤ 122 := by omega
      have hf' := hf.out
      rw [drop_at hy, List.takeWhile_cons, hyl, if_pos rfl, List.length_cons] at hf'
      have hF : Hid ((j + 1) + ((l.drop (j + 1)).takeWhile lowb).length = z) := Lib.hid (by omega)
      clear hf hf' hy hyl hlow hr
      go_wp2_with fail
      go_roundg (l.length - (j + 1))
      case measure => omega
      case rel => exact ⟨j + 1, by omega, by omega, by omega, hF, by simpa using PBj.set6 (j + 1), XBj.far hd2 _, hbj.setCell (by show w.heap.size ≤ X; omega) _⟩
    have hjz : j = z := by
      rw [← hf.out]
      cases hy : l[j]? with
      | none => rw [List.drop_eq_nil_of_le (List.getElem?_eq_none_iff.1 hy)]; rfl
      | some y =>
        rw [hy] at hlow
        cases hyl : lowb y with
        | true => exact absurd (by simp [hyl]) hlow
        | false => rw [drop_at hy, List.takeWhile_cons, hyl]; rfl
    clear hf
    obtain rfl := hjz
    have hexit : ¬ (j : Int) < (l.length : Int) ∨ ∃ y, l[j]? = some y ∧ (j : Int) < (l.length : Int) ∧ (¬ (97 : Int) ≤ (y.toNat : Int) ∨ ((97 : Int) ≤ (y.toNat : Int) ∧ ¬ (y.toNat : Int) ≤ 122)) := by
      cases hy : l[j]? with
      | none => have := List.getElem?_eq_none_iff.1 hy; exact Or.inl (by omega)
      | some y =>
        refine Or.inr ⟨y, rfl, by have := (List.getElem?_eq_some_iff.1 hy).1; omega, ?_⟩
        rw [hy] at hlow
        have : ¬ (97 ≤ y.toNat ∧ y.toNat ≤ 122) := fun h => hlow (by simp [lowb, h])
        omega
    clear hlow
    rcases hexit with e1 | ⟨y, hy, e1, e2⟩
    rotate_left
    · have E2 : (⟨l.toArray⟩ : ByteArray)[j]'(by simpa [ByteArray.size] using (by omega : j < l.length)) = y := byte_at' hy _
      clear hy
      rcases e2 with e2 | ⟨e2, e3⟩
      all_goals go_wp2_with fail
      all_goals
        (have hkj' : (k : Int) < (j : Int) := by omega
         have g6 : (j : Int) ≤ (l.length : Int) := by omega
         have g7 : (k : Int) ≤ (j : Int) := by omega
         refine H4.out _ _ ?_
         clear H4
         go_step
         go_step
         rename_i K5 h5
         have H5 := Lib.hid h5
         clear h5
         go_wp2_with fail
         refine H5.out _ _ ?_
         clear H5
         go_step
         go_step
         rename_i K7 h7
         have H7 := Lib.hid h7
         clear h7
         have hTk : (l.drop k).take (j - k) = W := by
           have e := hz.out
           rw [show j - k = ((l.drop k).takeWhile lowb).length by omega, take_tw]
           exact hW.out
         go_wp2_with fail
         rw [ext_mid l k j, hTk]
         have PB2 := (PBj.set0 W).set8 true
         have XB2 := (XBj.far (p := ⟨X, 0, none⟩) hd2 (.string ⟨W.toArray⟩)).far (p := ⟨X, 8, none⟩) hd2 (.bool true)
         have hb2 := (hbj.setCell (p := ⟨X, 0, none⟩) (by show w.heap.size ≤ X; omega) (.string ⟨W.toArray⟩)).setCell (p := ⟨X, 8, none⟩) (by show w.heap.size ≤ X; omega) (.bool true)
         generalize (wr.setCell ⟨X, 0, none⟩ (.string ⟨W.toArray⟩)).setCell ⟨X, 8, none⟩ (.bool true) = w3 at PB2 XB2 hb2 ⊢
         clear p0 p1 p2 p3 p4 p5 p6 p7 p8 p9 p10 PBj XBj hbj hTk
         refine H7.out _ _ ?_
         clear H7
         go_step
         rename_i K9 h9
         have H9 := Lib.hid h9
         clear h9
         go_step
         rename_i K8 h8
         have H8 := Lib.hid h8
         clear h8
         obtain ⟨p0, p1, p2, p3, p4, p5, p6, p7, p8, p9, p10⟩ := id PB2
         go_wp2_with fail
         clear p0 p1 p2 p3 p4 p5 p6 p7 p8 p9 p10
         refine H8.out _ _ ?_
         clear H8
         go_step
         go_step
         refine H9.out _ _ ?_
         clear H9
         go_step
         rename_i K9 h9
         have H9 := Lib.hid h9
         clear h9
         obtain ⟨p0, p1, p2, p3, p4, p5, p6, p7, p8, p9, p10⟩ := id PB2
         obtain ⟨x0, x1, x2, x3, x4, x5, x6, x7, x8, x9, x10⟩ := id XB2
         go_wp2_with fail
         obtain ⟨WF, hW⟩ : ∃ wF, (((((((((w3.setCell ⟨w.heap.size, 0, none⟩ (.string ⟨W.toArray⟩)).setCell ⟨w.heap.size, 1, none⟩ (.int .i64 0)).setCell ⟨w.heap.size, 2, none⟩ (.int .i64 0)).setCell ⟨w.heap.size, 3, none⟩ (.string ⟨#[]⟩)).setCell ⟨w.heap.size, 4, none⟩ (.bool false)).setCell ⟨w.heap.size, 5, none⟩ (.int .i64 (k : Int))).setCell ⟨w.heap.size, 6, none⟩ (.int .i64 (j : Int))).setCell ⟨w.heap.size, 7, none⟩ (.int .i64 0)).setCell ⟨w.heap.size, 8, none⟩ (.bool true)) = wF := ⟨_, rfl⟩
         rw [hW]
         obtain ⟨hF, hbF⟩ := pc_finish (c := ⟨W, 0, 0, [], false, k, j, 0, true⟩) (Nat.le_refl _) hb2 XB2 hW
         clear hW p0 p1 p2 p3 p4 p5 p6 p7 p8 p9 p10 x0 x1 x2 x3 x4 x5 x6 x7 x8 x9 x10
         obtain ⟨d0, d1, d2, d3, d4, d5, d6, d7, d8, d9, d10⟩ := hF
         refine H9.out _ _ ?_
         clear H9
         go_step
         (try simp only [Exit.inBlock, Exit.then])
         refine bodyPost_ret (v := pcV ⟨W, 0, 0, [], false, k, j, 0, true⟩) ?_ ?_ ?_
         · simp [results, Tryz.results56, go_sem, d0, d1, d2, d3, d4, d5, d6, d7, d8, pcV]
         · rfl
         · exact ⟨rfl, hbF⟩)
    · go_wp2_with fail
      have hkj' : (k : Int) < (j : Int) := by omega
      have g6 : (j : Int) ≤ (l.length : Int) := by omega
      have g7 : (k : Int) ≤ (j : Int) := by omega
      refine H4.out _ _ ?_
      clear H4
      go_step
      go_step
      rename_i K5 h5
      have H5 := Lib.hid h5
      clear h5
      go_wp2_with fail
      refine H5.out _ _ ?_
      clear H5
      go_step
      go_step
      rename_i K7 h7
      have H7 := Lib.hid h7
      clear h7
      have hTk : (l.drop k).take (j - k) = W := by
        have e := hz.out
        rw [show j - k = ((l.drop k).takeWhile lowb).length by omega, take_tw]
        exact hW.out
      go_wp2_with fail
      rw [ext_mid l k j, hTk]
      have PB2 := (PBj.set0 W).set8 true
      have XB2 := (XBj.far (p := ⟨X, 0, none⟩) hd2 (.string ⟨W.toArray⟩)).far (p := ⟨X, 8, none⟩) hd2 (.bool true)
      have hb2 := (hbj.setCell (p := ⟨X, 0, none⟩) (by show w.heap.size ≤ X; omega) (.string ⟨W.toArray⟩)).setCell (p := ⟨X, 8, none⟩) (by show w.heap.size ≤ X; omega) (.bool true)
      generalize (wr.setCell ⟨X, 0, none⟩ (.string ⟨W.toArray⟩)).setCell ⟨X, 8, none⟩ (.bool true) = w3 at PB2 XB2 hb2 ⊢
      clear p0 p1 p2 p3 p4 p5 p6 p7 p8 p9 p10 PBj XBj hbj hTk
      refine H7.out _ _ ?_
      clear H7
      go_step
      rename_i K9 h9
      have H9 := Lib.hid h9
      clear h9
      go_step
      rename_i K8 h8
      have H8 := Lib.hid h8
      clear h8
      obtain ⟨p0, p1, p2, p3, p4, p5, p6, p7, p8, p9, p10⟩ := id PB2
      go_wp2_with fail
      clear p0 p1 p2 p3 p4 p5 p6 p7 p8 p9 p10
      refine H8.out _ _ ?_
      clear H8
      go_step
      go_step
      refine H9.out _ _ ?_
      clear H9
      go_step
      rename_i K9 h9
      have H9 := Lib.hid h9
      clear h9
      obtain ⟨p0, p1, p2, p3, p4, p5, p6, p7, p8, p9, p10⟩ := id PB2
      obtain ⟨x0, x1, x2, x3, x4, x5, x6, x7, x8, x9, x10⟩ := id XB2
      go_wp2_with fail
      obtain ⟨WF, hW⟩ : ∃ wF, (((((((((w3.setCell ⟨w.heap.size, 0, none⟩ (.string ⟨W.toArray⟩)).setCell ⟨w.heap.size, 1, none⟩ (.int .i64 0)).setCell ⟨w.heap.size, 2, none⟩ (.int .i64 0)).setCell ⟨w.heap.size, 3, none⟩ (.string ⟨#[]⟩)).setCell ⟨w.heap.size, 4, none⟩ (.bool false)).setCell ⟨w.heap.size, 5, none⟩ (.int .i64 (k : Int))).setCell ⟨w.heap.size, 6, none⟩ (.int .i64 (j : Int))).setCell ⟨w.heap.size, 7, none⟩ (.int .i64 0)).setCell ⟨w.heap.size, 8, none⟩ (.bool true)) = wF := ⟨_, rfl⟩
      rw [hW]
      obtain ⟨hF, hbF⟩ := pc_finish (c := ⟨W, 0, 0, [], false, k, j, 0, true⟩) (Nat.le_refl _) hb2 XB2 hW
      clear hW p0 p1 p2 p3 p4 p5 p6 p7 p8 p9 p10 x0 x1 x2 x3 x4 x5 x6 x7 x8 x9 x10
      obtain ⟨d0, d1, d2, d3, d4, d5, d6, d7, d8, d9, d10⟩ := hF
      refine H9.out _ _ ?_
      clear H9
      go_step
      (try simp only [Exit.inBlock, Exit.then])
      refine bodyPost_ret (v := pcV ⟨W, 0, 0, [], false, k, j, 0, true⟩) ?_ ?_ ?_
      · simp [results, Tryz.results56, go_sem, d0, d1, d2, d3, d4, d5, d6, d7, d8, pcV]
      · rfl
      · exact ⟨rfl, hbF⟩

set_option maxHeartbeats 4000000 in
theorem pc_quoteN (l : Str) (p q : Nat) (op : Bool) (w : World) (hl : l.length ≤ 2000) (hp : p ≤ l.length) (hq : sk l p = q) (hql : q ≤ l.length) (hT : Tabs w) (x : UInt8) (hx : l[q]? = some x) (z : Nat) (hz : Hid (q + ((l.drop q).takeWhile lowb).length = z)) (hzq : z = q) (hx34 : ((x.toNat : Int) == 34) = true) (hQ : Hid (quotedR (l.drop q) = none)) :
    Calls Tryz.prog 56 #[.string ⟨l.toArray⟩, .int .i64 p, .bool op] w fun e w' => e = .returned (pcV ⟨[], 0, 0, [], true, q, q, 3, false⟩) ∧ Below w.heap.size w w' := by
  go_enter Tryz.func56, Tryz.ntmps56
  go_wp2_with fail
  have XB := new_pcbox w zeroPc 114
  have hbW : Below w.heap.size w (w.alloc (.cells #[.string ⟨#[]⟩, .int .i64 0, .int .i64 0, .string ⟨#[]⟩, .bool false, .int .i64 0, .int .i64 0, .int .i64 0, .bool false] 114)) := by go_grown
  change PcBox (w.alloc (.cells #[.string ⟨#[]⟩, .int .i64 0, .int .i64 0, .string ⟨#[]⟩, .bool false, .int .i64 0, .int .i64 0, .int .i64 0, .bool false] 114)) _ _ at XB
  generalize w.alloc (.cells #[.string ⟨#[]⟩, .int .i64 0, .int .i64 0, .string ⟨#[]⟩, .bool false, .int .i64 0, .int .i64 0, .int .i64 0, .bool false] 114) = w0 at XB hbW ⊢
  have HQ := Lib.hid hq
  clear hq
  go_loop [1] (fun i => ∃ k : Nat, k ≤ l.length ∧ i = .int .i64 k ∧ Hid (sk l k = q)) (fun i => l.length - (intOf i).toNat)
  case atStart => exact ⟨p, hp, rfl, HQ⟩
  case round =>
    obtain ⟨k, hk, rfl, hf⟩ := hrel
    by_cases hk32 : l[k]? = some 32
    · have hlt : k < l.length := (List.getElem?_eq_some_iff.1 hk32).1
      have E : (⟨l.toArray⟩ : ByteArray)[k]'(by simpa [ByteArray.size] using hlt) = 32 := byte_at' hk32 _
      have hlt' : (k : Int) < (l.length : Int) := by omega
      have hf' := Lib.hid ((sk_step hk32).symm.trans hf.out)
      clear hk32 hf
      go_wp2_with fail
      go_round
      case rel => exact ⟨k + 1, by omega, by go_num, hf'⟩
      case measure => simp [intOf]; omega
    have hkq : k = q := by
      rw [← hf.out]
      cases hx : l[k]? with
      | none => exact (sk_end (List.getElem?_eq_none_iff.1 hx)).symm
      | some x => exact (sk_stop hx (fun e => hk32 (by rw [hx, e]))).symm
    rename_i K1 h1 hww
    have H1 := Lib.hid h1
    clear h1 hf HQ hk hp hww
    obtain rfl := hkq
    have hx' := hx
    have hlt : k < l.length := (List.getElem?_eq_some_iff.1 hx).1
    have E : (⟨l.toArray⟩ : ByteArray)[k]'(by simpa [ByteArray.size] using hlt) = x := byte_at' hx _
    have hlt' : (k : Int) < (l.length : Int) := by omega
    have hx32 : ((x.toNat : Int) == 32) = false := by
      rw [beq_eq_false_iff_ne]
      intro e
      exact hk32 (by rw [hx]; exact congrArg some (UInt8.toNat.inj (by simpa using (by omega : x.toNat = 32))))
    have hq2 : ((k : Int) == (l.length : Int)) = false := by rw [beq_eq_false_iff_ne]; omega
    clear hk32
    have HX := Lib.hid hx'
    clear hx hx'
    go_wp2_with fail
    refine H1.out _ _ ?_
    clear H1
    go_step
    rename_i K2 h2
    have H2 := Lib.hid h2
    clear h2
    go_wp2_with fail
    have hX : w.heap.size < w0.heap.size := XB.lt
    have PB := new_pcbox w0 ⟨[], 0, 0, [], false, k, k, 0, false⟩ 114
    have hb1 : Below w0.heap.size w0 (w0.alloc (.cells #[.string ⟨#[]⟩, .int .i64 0, .int .i64 0, .string ⟨#[]⟩, .bool false, .int .i64 (k : Int), .int .i64 (k : Int), .int .i64 0, .bool false] 114)) := (Below.refl _ _).alloc (Nat.le_refl _) _
    change PcBox (w0.alloc (.cells #[.string ⟨#[]⟩, .int .i64 0, .int .i64 0, .string ⟨#[]⟩, .bool false, .int .i64 (k : Int), .int .i64 (k : Int), .int .i64 0, .bool false] 114)) _ _ at PB
    have XB1 := XB.keep hb1
    have hbW1 := chain hbW hb1
    generalize w0.alloc (.cells #[.string ⟨#[]⟩, .int .i64 0, .int .i64 0, .string ⟨#[]⟩, .bool false, .int .i64 (k : Int), .int .i64 (k : Int), .int .i64 0, .bool false] 114) = w1 at PB hb1 XB1 hbW1 ⊢
    clear hb1 XB hbW
    generalize w0.heap.size = X at PB hX ⊢
    try clear w0
    have hd1 : ¬ w.heap.size = X := by omega
    have hd2 : ¬ X = w.heap.size := by omega
    refine H2.out _ _ ?_
    clear H2
    go_step
    rename_i K3 h3
    have H3 := Lib.hid h3
    clear h3
    go_wp2_with fail
    refine H3.out _ _ ?_
    clear H3
    go_step
    rename_i K4 h4
    have H4 := Lib.hid h4
    clear h4
    go_step
    go_loopg [] l.length (fun gk wr => ∃ j : Nat, k ≤ j ∧ j ≤ l.length ∧ l.length ≤ gk + j ∧ Hid (j + ((l.drop j).takeWhile lowb).length = z) ∧ PcBox wr X ⟨[], 0, 0, [], false, k, j, 0, false⟩ ∧ PcBox wr w.heap.size zeroPc ∧ Below w.heap.size w wr)
    case atStart => exact ⟨k, Nat.le_refl _, hql, by omega, hz, PB, XB1, hbW1⟩
    case round =>
    clear PB XB1 hbW1
    obtain ⟨j, hkj, hj, hgk, hf, PBj, XBj, hbj⟩ := hrel
    obtain ⟨p0, p1, p2, p3, p4, p5, p6, p7, p8, p9, p10⟩ := id PBj
    by_cases hlow : (l[j]?.map lowb) = some true
    · obtain ⟨y, hy, hyl⟩ : ∃ y, l[j]? = some y ∧ lowb y = true := by
        cases h : l[j]? with
        | none => rw [h] at hlow; simp at hlow
        | some y => rw [h] at hlow; exact ⟨y, rfl, by simpa using hlow⟩
      have hjl : j < l.length := (List.getElem?_eq_some_iff.1 hy).1
      have E2 : (⟨l.toArray⟩ : ByteArray)[j]'(by simpa [ByteArray.size] using hjl) = y := byte_at' hy _
      have hjl' : (j : Int) < (l.length : Int) := by omega
      have hr : 97 ≤ y.toNat ∧ y.toNat ≤ 122 := by simpa [lowb] using hyl
      have c1 : (97 : Int) ≤ (y.toNat : Int) := by omega
      have c2 : (y.toNat : Int) ≤ 122 := by omega
      have hf' := hf.out
      rw [drop_at hy, List.takeWhile_cons, hyl, if_pos rfl, List.length_cons] at hf'
      have hF : Hid ((j + 1) + ((l.drop (j + 1)).takeWhile lowb).length = z) := Lib.hid (by omega)
      clear hf hf' hy hyl hlow hr
      go_wp2_with fail
      go_roundg (l.length - (j + 1))
      case measure => omega
      case rel => exact ⟨j + 1, by omega, by omega, by omega, hF, by simpa using PBj.set6 (j + 1), XBj.far hd2 _, hbj.setCell (by show w.heap.size ≤ X; omega) _⟩
    have hjz : j = z := by
      rw [← hf.out]
      cases hy : l[j]? with
      | none => rw [List.drop_eq_nil_of_le (List.getElem?_eq_none_iff.1 hy)]; rfl
      | some y =>
        rw [hy] at hlow
        cases hyl : lowb y with
        | true => exact absurd (by simp [hyl]) hlow
        | false => rw [drop_at hy, List.takeWhile_cons, hyl]; rfl
    clear hf
    obtain rfl := hjz
    have hexit : ¬ (j : Int) < (l.length : Int) ∨ ∃ y, l[j]? = some y ∧ (j : Int) < (l.length : Int) ∧ (¬ (97 : Int) ≤ (y.toNat : Int) ∨ ((97 : Int) ≤ (y.toNat : Int) ∧ ¬ (y.toNat : Int) ≤ 122)) := by
      cases hy : l[j]? with
      | none => have := List.getElem?_eq_none_iff.1 hy; exact Or.inl (by omega)
      | some y =>
        refine Or.inr ⟨y, rfl, by have := (List.getElem?_eq_some_iff.1 hy).1; omega, ?_⟩
        rw [hy] at hlow
        have : ¬ (97 ≤ y.toNat ∧ y.toNat ≤ 122) := fun h => hlow (by simp [lowb, h])
        omega
    clear hlow
    rcases hexit with e1 | ⟨y, hy, e1, e2⟩
    rotate_left
    · obtain rfl : y = x := (by have h := HX.out; rw [← hzq] at h; exact Option.some.inj (hy.symm.trans h))
      clear hy
      rcases e2 with e2 | ⟨e2, e3⟩
      all_goals go_wp2_with fail
      all_goals
        (have PBk : PcBox wr X ⟨[], 0, 0, [], false, k, k, 0, false⟩ := by rw [hzq] at PBj; exact PBj
         clear p0 p1 p2 p3 p4 p5 p6 p7 p8 p9 p10 PBj
         obtain ⟨p0, p1, p2, p3, p4, p5, p6, p7, p8, p9, p10⟩ := id PBk
         refine H4.out _ _ ?_
         clear H4
         go_step
         rename_i K5 h5
         have H5 := Lib.hid h5
         clear h5
         go_wp2_with fail
         clear p0 p1 p2 p3 p4 p5 p6 p7 p8 p9 p10
         refine H5.out _ _ ?_
         clear H5
         go_step
         rename_i K6 h6
         have H6 := Lib.hid h6
         clear h6
         go_step
         rename_i K7 h7
         have H7 := Lib.hid h7
         clear h7
         go_wp2_with fail
         refine H7.out _ _ ?_
         clear H7
         go_step
         go_step
         rename_i K8 h8
         have H8 := Lib.hid h8
         clear h8
         obtain ⟨p0, p1, p2, p3, p4, p5, p6, p7, p8, p9, p10⟩ := id PBk
         go_wp2_with fail
         have PB2 := PBk.set4 true
         have XB2 := XBj.far (p := ⟨X, 4, none⟩) hd2 (.bool true)
         have hb2 := hbj.setCell (p := ⟨X, 4, none⟩) (by show w.heap.size ≤ X; omega) (.bool true)
         generalize wr.setCell ⟨X, 4, none⟩ (.bool true) = w2 at PB2 XB2 hb2 ⊢
         clear p0 p1 p2 p3 p4 p5 p6 p7 p8 p9 p10 PBk XBj hbj
         refine H8.out _ _ ?_
         clear H8
         go_step
         rename_i K9 h9
         have H9 := Lib.hid h9
         clear h9
         have g1 : ¬ (l.length : Int) < (k : Int) := by omega
         have g2 : ¬ (k : Int) < 0 := by omega
         have g3 : 0 ≤ (k : Int) ∧ (k : Int) ≤ (l.length : Int) := by omega
         have g4 : (k : Int) ≤ (l.length : Int) := by omega
         go_wp2_with fail
         refine (quotedRef_any (l.drop k) w2 (by rw [List.length_drop]; omega) (hT.below hb2)).mono ?_
         rw [hQ.out, show quRes none = .returned (.tuple #[.int .i64 (-1), .string ⟨#[]⟩]) from rfl]
         rintro e w3 ⟨rfl, hb⟩
         have PB3 := PB2.keep hb
         have XB3 := XB2.keep hb
         have hb3 := chain hb2 hb
         clear hb PB2 XB2 hb2
         go_wp2_with fail
         refine H9.out _ _ ?_
         clear H9
         go_step
         rename_i K10 h10
         have H10 := Lib.hid h10
         clear h10
         go_step
         rename_i K11 h11
         have H11 := Lib.hid h11
         clear h11
         go_wp2_with fail
         refine H11.out _ _ ?_
         clear H11
         go_step
         go_step
         rename_i K12 h12
         have H12 := Lib.hid h12
         clear h12
         obtain ⟨p0, p1, p2, p3, p4, p5, p6, p7, p8, p9, p10⟩ := id PB3
         go_wp2_with fail
         have PB12 := PB3.set7 3
         have XB12 := XB3.far (p := ⟨X, 7, none⟩) hd2 (.int .i64 3)
         have hb12 := hb3.setCell (p := ⟨X, 7, none⟩) (by show w.heap.size ≤ X; omega) (.int .i64 3)
         change PcBox (w3.setCell ⟨X, 7, none⟩ (.int .i64 3)) _ _ at PB12
         generalize w3.setCell ⟨X, 7, none⟩ (.int .i64 3) = w4 at PB12 XB12 hb12 ⊢
         clear p0 p1 p2 p3 p4 p5 p6 p7 p8 p9 p10 PB3 XB3 hb3
         refine H12.out _ _ ?_
         clear H12
         go_step
         rename_i K9 h9
         have H9 := Lib.hid h9
         clear h9
         obtain ⟨p0, p1, p2, p3, p4, p5, p6, p7, p8, p9, p10⟩ := id PB12
         obtain ⟨x0, x1, x2, x3, x4, x5, x6, x7, x8, x9, x10⟩ := id XB12
         go_wp2_with fail
         obtain ⟨WF, hW⟩ : ∃ wF, (((((((((w4.setCell ⟨w.heap.size, 0, none⟩ (.string ⟨#[]⟩)).setCell ⟨w.heap.size, 1, none⟩ (.int .i64 0)).setCell ⟨w.heap.size, 2, none⟩ (.int .i64 0)).setCell ⟨w.heap.size, 3, none⟩ (.string ⟨#[]⟩)).setCell ⟨w.heap.size, 4, none⟩ (.bool true)).setCell ⟨w.heap.size, 5, none⟩ (.int .i64 (k : Int))).setCell ⟨w.heap.size, 6, none⟩ (.int .i64 (k : Int))).setCell ⟨w.heap.size, 7, none⟩ (.int .i64 3)).setCell ⟨w.heap.size, 8, none⟩ (.bool false)) = wF := ⟨_, rfl⟩
         rw [hW]
         obtain ⟨hF, hbF⟩ := pc_finish (c := ⟨[], 0, 0, [], true, k, k, 3, false⟩) (Nat.le_refl _) hb12 XB12 hW
         clear hW p0 p1 p2 p3 p4 p5 p6 p7 p8 p9 p10 x0 x1 x2 x3 x4 x5 x6 x7 x8 x9 x10
         obtain ⟨d0, d1, d2, d3, d4, d5, d6, d7, d8, d9, d10⟩ := hF
         refine H9.out _ _ ?_
         clear H9
         go_step
         (try simp only [Exit.inBlock, Exit.then])
         refine bodyPost_ret (v := pcV ⟨[], 0, 0, [], true, k, k, 3, false⟩) ?_ ?_ ?_
         · simp [results, Tryz.results56, go_sem, d0, d1, d2, d3, d4, d5, d6, d7, d8, pcV]
         · rfl
         · exact ⟨rfl, hbF⟩)
    · go_wp2_with fail
      (exfalso; omega)
set_option maxHeartbeats 4000000 in
theorem pc_quoteS (l : Str) (p q : Nat) (op : Bool) (w : World) (hl : l.length ≤ 2000) (hp : p ≤ l.length) (hq : sk l p = q) (hql : q ≤ l.length) (hT : Tabs w) (x : UInt8) (hx : l[q]? = some x) (z : Nat) (hz : Hid (q + ((l.drop q).takeWhile lowb).length = z)) (hzq : z = q) (hx34 : ((x.toNat : Int) == 34) = true) (n : Nat) (t : Str) (hQ : Hid (quotedR (l.drop q) = some (n, t))) (y2 : Nat) (hkn : q + n = y2) (hy2 : y2 ≤ l.length) (h100 : ¬ (100 : Int) < (t.length : Int)) :
    Calls Tryz.prog 56 #[.string ⟨l.toArray⟩, .int .i64 p, .bool op] w fun e w' => e = .returned (pcV ⟨[], 3, 0, t, true, q, y2, 0, false⟩) ∧ Below w.heap.size w w' := by
  go_enter Tryz.func56, Tryz.ntmps56
  go_wp2_with fail
  have XB := new_pcbox w zeroPc 114
  have hbW : Below w.heap.size w (w.alloc (.cells #[.string ⟨#[]⟩, .int .i64 0, .int .i64 0, .string ⟨#[]⟩, .bool false, .int .i64 0, .int .i64 0, .int .i64 0, .bool false] 114)) := by go_grown
  change PcBox (w.alloc (.cells #[.string ⟨#[]⟩, .int .i64 0, .int .i64 0, .string ⟨#[]⟩, .bool false, .int .i64 0, .int .i64 0, .int .i64 0, .bool false] 114)) _ _ at XB
  generalize w.alloc (.cells #[.string ⟨#[]⟩, .int .i64 0, .int .i64 0, .string ⟨#[]⟩, .bool false, .int .i64 0, .int .i64 0, .int .i64 0, .bool false] 114) = w0 at XB hbW ⊢
  have HQ := Lib.hid hq
  clear hq
  go_loop [1] (fun i => ∃ k : Nat, k ≤ l.length ∧ i = .int .i64 k ∧ Hid (sk l k = q)) (fun i => l.length - (intOf i).toNat)
  case atStart => exact ⟨p, hp, rfl, HQ⟩
  case round =>
    obtain ⟨k, hk, rfl, hf⟩ := hrel
    by_cases hk32 : l[k]? = some 32
    · have hlt : k < l.length := (List.getElem?_eq_some_iff.1 hk32).1
      have E : (⟨l.toArray⟩ : ByteArray)[k]'(by simpa [ByteArray.size] using hlt) = 32 := byte_at' hk32 _
      have hlt' : (k : Int) < (l.length : Int) := by omega
      have hf' := Lib.hid ((sk_step hk32).symm.trans hf.out)
      clear hk32 hf
      go_wp2_with fail
      go_round
      case rel => exact ⟨k + 1, by omega, by go_num, hf'⟩
      case measure => simp [intOf]; omega
    have hkq : k = q := by
      rw [← hf.out]
      cases hx : l[k]? with
      | none => exact (sk_end (List.getElem?_eq_none_iff.1 hx)).symm
      | some x => exact (sk_stop hx (fun e => hk32 (by rw [hx, e]))).symm
    rename_i K1 h1 hww
    have H1 := Lib.hid h1
    clear h1 hf HQ hk hp hww
    obtain rfl := hkq
    have hx' := hx
    have hlt : k < l.length := (List.getElem?_eq_some_iff.1 hx).1
    have E : (⟨l.toArray⟩ : ByteArray)[k]'(by simpa [ByteArray.size] using hlt) = x := byte_at' hx _
    have hlt' : (k : Int) < (l.length : Int) := by omega
    have hx32 : ((x.toNat : Int) == 32) = false := by
      rw [beq_eq_false_iff_ne]
      intro e
      exact hk32 (by rw [hx]; exact congrArg some (UInt8.toNat.inj (by simpa using (by omega : x.toNat = 32))))
    have hq2 : ((k : Int) == (l.length : Int)) = false := by rw [beq_eq_false_iff_ne]; omega
    clear hk32
    have HX := Lib.hid hx'
    clear hx hx'
    go_wp2_with fail
    refine H1.out _ _ ?_
    clear H1
    go_step
    rename_i K2 h2
    have H2 := Lib.hid h2
    clear h2
    go_wp2_with fail
    have hX : w.heap.size < w0.heap.size := XB.lt
    have PB := new_pcbox w0 ⟨[], 0, 0, [], false, k, k, 0, false⟩ 114
    have hb1 : Below w0.heap.size w0 (w0.alloc (.cells #[.string ⟨#[]⟩, .int .i64 0, .int .i64 0, .string ⟨#[]⟩, .bool false, .int .i64 (k : Int), .int .i64 (k : Int), .int .i64 0, .bool false] 114)) := (Below.refl _ _).alloc (Nat.le_refl _) _
    change PcBox (w0.alloc (.cells #[.string ⟨#[]⟩, .int .i64 0, .int .i64 0, .string ⟨#[]⟩, .bool false, .int .i64 (k : Int), .int .i64 (k : Int), .int .i64 0, .bool false] 114)) _ _ at PB
    have XB1 := XB.keep hb1
    have hbW1 := chain hbW hb1
    generalize w0.alloc (.cells #[.string ⟨#[]⟩, .int .i64 0, .int .i64 0, .string ⟨#[]⟩, .bool false, .int .i64 (k : Int), .int .i64 (k : Int), .int .i64 0, .bool false] 114) = w1 at PB hb1 XB1 hbW1 ⊢
    clear hb1 XB hbW
    generalize w0.heap.size = X at PB hX ⊢
    try clear w0
    have hd1 : ¬ w.heap.size = X := by omega
    have hd2 : ¬ X = w.heap.size := by omega
    refine H2.out _ _ ?_
    clear H2
    go_step
    rename_i K3 h3
    have H3 := Lib.hid h3
    clear h3
    go_wp2_with fail
    refine H3.out _ _ ?_
    clear H3
    go_step
    rename_i K4 h4
    have H4 := Lib.hid h4
    clear h4
    go_step
    go_loopg [] l.length (fun gk wr => ∃ j : Nat, k ≤ j ∧ j ≤ l.length ∧ l.length ≤ gk + j ∧ Hid (j + ((l.drop j).takeWhile lowb).length = z) ∧ PcBox wr X ⟨[], 0, 0, [], false, k, j, 0, false⟩ ∧ PcBox wr w.heap.size zeroPc ∧ Below w.heap.size w wr)
    case atStart => exact ⟨k, Nat.le_refl _, hql, by omega, hz, PB, XB1, hbW1⟩
    case round =>
    clear PB XB1 hbW1
    obtain ⟨j, hkj, hj, hgk, hf, PBj, XBj, hbj⟩ := hrel
    obtain ⟨p0, p1, p2, p3, p4, p5, p6, p7, p8, p9, p10⟩ := id PBj
    by_cases hlow : (l[j]?.map lowb) = some true
    · obtain ⟨y, hy, hyl⟩ : ∃ y, l[j]? = some y ∧ lowb y = true := by
        cases h : l[j]? with
        | none => rw [h] at hlow; simp at hlow
        | some y => rw [h] at hlow; exact ⟨y, rfl, by simpa using hlow⟩
      have hjl : j < l.length := (List.getElem?_eq_some_iff.1 hy).1
      have E2 : (⟨l.toArray⟩ : ByteArray)[j]'(by simpa [ByteArray.size] using hjl) = y := byte_at' hy _
      have hjl' : (j : Int) < (l.length : Int) := by omega
      have hr : 97 ≤ y.toNat ∧ y.toNat ≤ 122 := by simpa [lowb] using hyl
      have c1 : (97 : Int) ≤ (y.toNat : Int) := by omega
      have c2 : (y.toNat : Int) ≤ 122 := by omega
      have hf' := hf.out
      rw [drop_at hy, List.takeWhile_cons, hyl, if_pos rfl, List.length_cons] at hf'
      have hF : Hid ((j + 1) + ((l.drop (j + 1)).takeWhile lowb).length = z) := Lib.hid (by omega)
      clear hf hf' hy hyl hlow hr
      go_wp2_with fail
      go_roundg (l.length - (j + 1))
      case measure => omega
      case rel => exact ⟨j + 1, by omega, by omega, by omega, hF, by simpa using PBj.set6 (j + 1), XBj.far hd2 _, hbj.setCell (by show w.heap.size ≤ X; omega) _⟩
    have hjz : j = z := by
      rw [← hf.out]
      cases hy : l[j]? with
      | none => rw [List.drop_eq_nil_of_le (List.getElem?_eq_none_iff.1 hy)]; rfl
      | some y =>
        rw [hy] at hlow
        cases hyl : lowb y with
        | true => exact absurd (by simp [hyl]) hlow
        | false => rw [drop_at hy, List.takeWhile_cons, hyl]; rfl
    clear hf
    obtain rfl := hjz
    have hexit : ¬ (j : Int) < (l.length : Int) ∨ ∃ y, l[j]? = some y ∧ (j : Int) < (l.length : Int) ∧ (¬ (97 : Int) ≤ (y.toNat : Int) ∨ ((97 : Int) ≤ (y.toNat : Int) ∧ ¬ (y.toNat : Int) ≤ 122)) := by
      cases hy : l[j]? with
      | none => have := List.getElem?_eq_none_iff.1 hy; exact Or.inl (by omega)
      | some y =>
        refine Or.inr ⟨y, rfl, by have := (List.getElem?_eq_some_iff.1 hy).1; omega, ?_⟩
        rw [hy] at hlow
        have : ¬ (97 ≤ y.toNat ∧ y.toNat ≤ 122) := fun h => hlow (by simp [lowb, h])
        omega
    clear hlow
    rcases hexit with e1 | ⟨y, hy, e1, e2⟩
    rotate_left
    · obtain rfl : y = x := (by have h := HX.out; rw [← hzq] at h; exact Option.some.inj (hy.symm.trans h))
      clear hy
      rcases e2 with e2 | ⟨e2, e3⟩
      all_goals go_wp2_with fail
      all_goals
        (have PBk : PcBox wr X ⟨[], 0, 0, [], false, k, k, 0, false⟩ := by rw [hzq] at PBj; exact PBj
         clear p0 p1 p2 p3 p4 p5 p6 p7 p8 p9 p10 PBj
         obtain ⟨p0, p1, p2, p3, p4, p5, p6, p7, p8, p9, p10⟩ := id PBk
         refine H4.out _ _ ?_
         clear H4
         go_step
         rename_i K5 h5
         have H5 := Lib.hid h5
         clear h5
         go_wp2_with fail
         clear p0 p1 p2 p3 p4 p5 p6 p7 p8 p9 p10
         refine H5.out _ _ ?_
         clear H5
         go_step
         rename_i K6 h6
         have H6 := Lib.hid h6
         clear h6
         go_step
         rename_i K7 h7
         have H7 := Lib.hid h7
         clear h7
         go_wp2_with fail
         refine H7.out _ _ ?_
         clear H7
         go_step
         go_step
         rename_i K8 h8
         have H8 := Lib.hid h8
         clear h8
         obtain ⟨p0, p1, p2, p3, p4, p5, p6, p7, p8, p9, p10⟩ := id PBk
         go_wp2_with fail
         have PB2 := PBk.set4 true
         have XB2 := XBj.far (p := ⟨X, 4, none⟩) hd2 (.bool true)
         have hb2 := hbj.setCell (p := ⟨X, 4, none⟩) (by show w.heap.size ≤ X; omega) (.bool true)
         generalize wr.setCell ⟨X, 4, none⟩ (.bool true) = w2 at PB2 XB2 hb2 ⊢
         clear p0 p1 p2 p3 p4 p5 p6 p7 p8 p9 p10 PBk XBj hbj
         refine H8.out _ _ ?_
         clear H8
         go_step
         rename_i K9 h9
         have H9 := Lib.hid h9
         clear h9
         have g1 : ¬ (l.length : Int) < (k : Int) := by omega
         have g2 : ¬ (k : Int) < 0 := by omega
         have g3 : 0 ≤ (k : Int) ∧ (k : Int) ≤ (l.length : Int) := by omega
         have g4 : (k : Int) ≤ (l.length : Int) := by omega
         go_wp2_with fail
         refine (quotedRef_any (l.drop k) w2 (by rw [List.length_drop]; omega) (hT.below hb2)).mono ?_
         rw [hQ.out, show quRes (some (n, t)) = .returned (.tuple #[.int .i64 n, .string ⟨t.toArray⟩]) from rfl]
         rintro e w3 ⟨rfl, hb⟩
         have PB3 := PB2.keep hb
         have XB3 := XB2.keep hb
         have hb3 := chain hb2 hb
         clear hb PB2 XB2 hb2
         go_wp2_with fail
         refine H9.out _ _ ?_
         clear H9
         go_step
         rename_i K10 h10
         have H10 := Lib.hid h10
         clear h10
         go_step
         rename_i K11 h11
         have H11 := Lib.hid h11
         clear h11
         go_wp2_with fail
         refine H11.out _ _ ?_
         clear H11
         go_step
         go_step
         refine H10.out _ _ ?_
         clear H10
         have hkn' : (k : Int) + (n : Int) = (y2 : Int) := by omega
         go_step
         rename_i K13 h13
         have H13 := Lib.hid h13
         clear h13
         obtain ⟨p0, p1, p2, p3, p4, p5, p6, p7, p8, p9, p10⟩ := id PB3
         go_wp2_with (rw [hkn'])
         have PB13 := PB3.set6 y2
         have XB13 := XB3.far (p := ⟨X, 6, none⟩) hd2 (.int .i64 (y2 : Int))
         have hb13 := hb3.setCell (p := ⟨X, 6, none⟩) (by show w.heap.size ≤ X; omega) (.int .i64 (y2 : Int))
         change PcBox (w3.setCell ⟨X, 6, none⟩ (.int .i64 (y2 : Int))) _ _ at PB13
         generalize w3.setCell ⟨X, 6, none⟩ (.int .i64 (y2 : Int)) = w4 at PB13 XB13 hb13 ⊢
         clear p0 p1 p2 p3 p4 p5 p6 p7 p8 p9 p10 PB3 XB3 hb3
         refine H13.out _ _ ?_
         clear H13
         go_step
         rename_i K14 h14
         have H14 := Lib.hid h14
         clear h14
         obtain ⟨p0, p1, p2, p3, p4, p5, p6, p7, p8, p9, p10⟩ := id PB13
         go_wp2_with fail
         have PB14 := ((PB13.set1 3).set2 0).set3 t
         have XB14 := ((XB13.far (p := ⟨X, 1, none⟩) hd2 (.int .i64 3)).far (p := ⟨X, 2, none⟩) hd2 (.int .i64 0)).far (p := ⟨X, 3, none⟩) hd2 (.string ⟨t.toArray⟩)
         have hb14 := ((hb13.setCell (p := ⟨X, 1, none⟩) (by show w.heap.size ≤ X; omega) (.int .i64 3)).setCell (p := ⟨X, 2, none⟩) (by show w.heap.size ≤ X; omega) (.int .i64 0)).setCell (p := ⟨X, 3, none⟩) (by show w.heap.size ≤ X; omega) (.string ⟨t.toArray⟩)
         change PcBox (((w4.setCell ⟨X, 1, none⟩ (.int .i64 3)).setCell ⟨X, 2, none⟩ (.int .i64 0)).setCell ⟨X, 3, none⟩ (.string ⟨t.toArray⟩)) _ _ at PB14
         generalize (((w4.setCell ⟨X, 1, none⟩ (.int .i64 3)).setCell ⟨X, 2, none⟩ (.int .i64 0)).setCell ⟨X, 3, none⟩ (.string ⟨t.toArray⟩)) = w5 at PB14 XB14 hb14 ⊢
         clear p0 p1 p2 p3 p4 p5 p6 p7 p8 p9 p10 PB13 XB13 hb13
         refine H14.out _ _ ?_
         clear H14
         go_step
         rename_i K15 h15
         have H15 := Lib.hid h15
         clear h15
         go_step
         rename_i K15c h15c
         have H15c := Lib.hid h15c
         clear h15c
         go_wp2_with fail
         refine H15c.out _ _ ?_
         clear H15c
         go_step
         go_step
         refine H15.out _ _ ?_
         clear H15
         go_step
         rename_i K9 h9
         have H9 := Lib.hid h9
         clear h9
         obtain ⟨p0, p1, p2, p3, p4, p5, p6, p7, p8, p9, p10⟩ := id PB14
         obtain ⟨x0, x1, x2, x3, x4, x5, x6, x7, x8, x9, x10⟩ := id XB14
         go_wp2_with fail
         obtain ⟨WF, hW⟩ : ∃ wF, (((((((((w5.setCell ⟨w.heap.size, 0, none⟩ (.string ⟨#[]⟩)).setCell ⟨w.heap.size, 1, none⟩ (.int .i64 3)).setCell ⟨w.heap.size, 2, none⟩ (.int .i64 0)).setCell ⟨w.heap.size, 3, none⟩ (.string ⟨t.toArray⟩)).setCell ⟨w.heap.size, 4, none⟩ (.bool true)).setCell ⟨w.heap.size, 5, none⟩ (.int .i64 (k : Int))).setCell ⟨w.heap.size, 6, none⟩ (.int .i64 (y2 : Int))).setCell ⟨w.heap.size, 7, none⟩ (.int .i64 0)).setCell ⟨w.heap.size, 8, none⟩ (.bool false)) = wF := ⟨_, rfl⟩
         rw [hW]
         obtain ⟨hF, hbF⟩ := pc_finish (c := ⟨[], 3, 0, t, true, k, y2, 0, false⟩) (Nat.le_refl _) hb14 XB14 hW
         clear hW p0 p1 p2 p3 p4 p5 p6 p7 p8 p9 p10 x0 x1 x2 x3 x4 x5 x6 x7 x8 x9 x10
         obtain ⟨d0, d1, d2, d3, d4, d5, d6, d7, d8, d9, d10⟩ := hF
         refine H9.out _ _ ?_
         clear H9
         go_step
         (try simp only [Exit.inBlock, Exit.then])
         refine bodyPost_ret (v := pcV ⟨[], 3, 0, t, true, k, y2, 0, false⟩) ?_ ?_ ?_
         · simp [results, Tryz.results56, go_sem, d0, d1, d2, d3, d4, d5, d6, d7, d8, pcV]
         · rfl
         · exact ⟨rfl, hbF⟩)
    · go_wp2_with fail
      (exfalso; omega)
set_option maxHeartbeats 4000000 in
theorem pc_quoteL (l : Str) (p q : Nat) (op : Bool) (w : World) (hl : l.length ≤ 2000) (hp : p ≤ l.length) (hq : sk l p = q) (hql : q ≤ l.length) (hT : Tabs w) (x : UInt8) (hx : l[q]? = some x) (z : Nat) (hz : Hid (q + ((l.drop q).takeWhile lowb).length = z)) (hzq : z = q) (hx34 : ((x.toNat : Int) == 34) = true) (n : Nat) (t : Str) (hQ : Hid (quotedR (l.drop q) = some (n, t))) (y2 : Nat) (hkn : q + n = y2) (hy2 : y2 ≤ l.length) (h100 : (100 : Int) < (t.length : Int)) :
    Calls Tryz.prog 56 #[.string ⟨l.toArray⟩, .int .i64 p, .bool op] w fun e w' => e = .returned (pcV ⟨[], 3, 0, t, true, q, y2, 2, false⟩) ∧ Below w.heap.size w w' := by
  go_enter Tryz.func56, Tryz.ntmps56
  go_wp2_with fail
  have XB := new_pcbox w zeroPc 114
  have hbW : Below w.heap.size w (w.alloc (.cells #[.string ⟨#[]⟩, .int .i64 0, .int .i64 0, .string ⟨#[]⟩, .bool false, .int .i64 0, .int .i64 0, .int .i64 0, .bool false] 114)) := by go_grown
  change PcBox (w.alloc (.cells #[.string ⟨#[]⟩, .int .i64 0, .int .i64 0, .string ⟨#[]⟩, .bool false, .int .i64 0, .int .i64 0, .int .i64 0, .bool false] 114)) _ _ at XB
  generalize w.alloc (.cells #[.string ⟨#[]⟩, .int .i64 0, .int .i64 0, .string ⟨#[]⟩, .bool false, .int .i64 0, .int .i64 0, .int .i64 0, .bool false] 114) = w0 at XB hbW ⊢
  have HQ := Lib.hid hq
  clear hq
  go_loop [1] (fun i => ∃ k : Nat, k ≤ l.length ∧ i = .int .i64 k ∧ Hid (sk l k = q)) (fun i => l.length - (intOf i).toNat)
  case atStart => exact ⟨p, hp, rfl, HQ⟩
  case round =>
    obtain ⟨k, hk, rfl, hf⟩ := hrel
    by_cases hk32 : l[k]? = some 32
    · have hlt : k < l.length := (List.getElem?_eq_some_iff.1 hk32).1
      have E : (⟨l.toArray⟩ : ByteArray)[k]'(by simpa [ByteArray.size] using hlt) = 32 := byte_at' hk32 _
      have hlt' : (k : Int) < (l.length : Int) := by omega
      have hf' := Lib.hid ((sk_step hk32).symm.trans hf.out)
      clear hk32 hf
      go_wp2_with fail
      go_round
      case rel => exact ⟨k + 1, by omega, by go_num, hf'⟩
      case measure => simp [intOf]; omega
    have hkq : k = q := by
      rw [← hf.out]
      cases hx : l[k]? with
      | none => exact (sk_end (List.getElem?_eq_none_iff.1 hx)).symm
      | some x => exact (sk_stop hx (fun e => hk32 (by rw [hx, e]))).symm
    rename_i K1 h1 hww
    have H1 := Lib.hid h1
    clear h1 hf HQ hk hp hww
    obtain rfl := hkq
    have hx' := hx
    have hlt : k < l.length := (List.getElem?_eq_some_iff.1 hx).1
    have E : (⟨l.toArray⟩ : ByteArray)[k]'(by simpa [ByteArray.size] using hlt) = x := byte_at' hx _
    have hlt' : (k : Int) < (l.length : Int) := by omega
    have hx32 : ((x.toNat : Int) == 32) = false := by
      rw [beq_eq_false_iff_ne]
      intro e
      exact hk32 (by rw [hx]; exact congrArg some (UInt8.toNat.inj (by simpa using (by omega : x.toNat = 32))))
    have hq2 : ((k : Int) == (l.length : Int)) = false := by rw [beq_eq_false_iff_ne]; omega
    clear hk32
    have HX := Lib.hid hx'
    clear hx hx'
    go_wp2_with fail
    refine H1.out _ _ ?_
    clear H1
    go_step
    rename_i K2 h2
    have H2 := Lib.hid h2
    clear h2
    go_wp2_with fail
    have hX : w.heap.size < w0.heap.size := XB.lt
    have PB := new_pcbox w0 ⟨[], 0, 0, [], false, k, k, 0, false⟩ 114
    have hb1 : Below w0.heap.size w0 (w0.alloc (.cells #[.string ⟨#[]⟩, .int .i64 0, .int .i64 0, .string ⟨#[]⟩, .bool false, .int .i64 (k : Int), .int .i64 (k : Int), .int .i64 0, .bool false] 114)) := (Below.refl _ _).alloc (Nat.le_refl _) _
    change PcBox (w0.alloc (.cells #[.string ⟨#[]⟩, .int .i64 0, .int .i64 0, .string ⟨#[]⟩, .bool false, .int .i64 (k : Int), .int .i64 (k : Int), .int .i64 0, .bool false] 114)) _ _ at PB
    have XB1 := XB.keep hb1
    have hbW1 := chain hbW hb1
    generalize w0.alloc (.cells #[.string ⟨#[]⟩, .int .i64 0, .int .i64 0, .string ⟨#[]⟩, .bool false, .int .i64 (k : Int), .int .i64 (k : Int), .int .i64 0, .bool false] 114) = w1 at PB hb1 XB1 hbW1 ⊢
    clear hb1 XB hbW
    generalize w0.heap.size = X at PB hX ⊢
    try clear w0
    have hd1 : ¬ w.heap.size = X := by omega
    have hd2 : ¬ X = w.heap.size := by omega
    refine H2.out _ _ ?_
    clear H2
    go_step
    rename_i K3 h3
    have H3 := Lib.hid h3
    clear h3
    go_wp2_with fail
    refine H3.out _ _ ?_
    clear H3
    go_step
    rename_i K4 h4
    have H4 := Lib.hid h4
    clear h4
    go_step
    go_loopg [] l.length (fun gk wr => ∃ j : Nat, k ≤ j ∧ j ≤ l.length ∧ l.length ≤ gk + j ∧ Hid (j + ((l.drop j).takeWhile lowb).length = z) ∧ PcBox wr X ⟨[], 0, 0, [], false, k, j, 0, false⟩ ∧ PcBox wr w.heap.size zeroPc ∧ Below w.heap.size w wr)
    case atStart => exact ⟨k, Nat.le_refl _, hql, by omega, hz, PB, XB1, hbW1⟩
    case round =>
    clear PB XB1 hbW1
    obtain ⟨j, hkj, hj, hgk, hf, PBj, XBj, hbj⟩ := hrel
    obtain ⟨p0, p1, p2, p3, p4, p5, p6, p7, p8, p9, p10⟩ := id PBj
    by_cases hlow : (l[j]?.map lowb) = some true
    · obtain ⟨y, hy, hyl⟩ : ∃ y, l[j]? = some y ∧ lowb y = true := by
        cases h : l[j]? with
        | none => rw [h] at hlow; simp at hlow
        | some y => rw [h] at hlow; exact ⟨y, rfl, by simpa using hlow⟩
      have hjl : j < l.length := (List.getElem?_eq_some_iff.1 hy).1
      have E2 : (⟨l.toArray⟩ : ByteArray)[j]'(by simpa [ByteArray.size] using hjl) = y := byte_at' hy _
      have hjl' : (j : Int) < (l.length : Int) := by omega
      have hr : 97 ≤ y.toNat ∧ y.toNat ≤ 122 := by simpa [lowb] using hyl
      have c1 : (97 : Int) ≤ (y.toNat : Int) := by omega
      have c2 : (y.toNat : Int) ≤ 122 := by omega
      have hf' := hf.out
      rw [drop_at hy, List.takeWhile_cons, hyl, if_pos rfl, List.length_cons] at hf'
      have hF : Hid ((j + 1) + ((l.drop (j + 1)).takeWhile lowb).length = z) := Lib.hid (by omega)
      clear hf hf' hy hyl hlow hr
      go_wp2_with fail
      go_roundg (l.length - (j + 1))
      case measure => omega
      case rel => exact ⟨j + 1, by omega, by omega, by omega, hF, by simpa using PBj.set6 (j + 1), XBj.far hd2 _, hbj.setCell (by show w.heap.size ≤ X; omega) _⟩
    have hjz : j = z := by
      rw [← hf.out]
      cases hy : l[j]? with
      | none => rw [List.drop_eq_nil_of_le (List.getElem?_eq_none_iff.1 hy)]; rfl
      | some y =>
        rw [hy] at hlow
        cases hyl : lowb y with
        | true => exact absurd (by simp [hyl]) hlow
        | false => rw [drop_at hy, List.takeWhile_cons, hyl]; rfl
    clear hf
    obtain rfl := hjz
    have hexit : ¬ (j : Int) < (l.length : Int) ∨ ∃ y, l[j]? = some y ∧ (j : Int) < (l.length : Int) ∧ (¬ (97 : Int) ≤ (y.toNat : Int) ∨ ((97 : Int) ≤ (y.toNat : Int) ∧ ¬ (y.toNat : Int) ≤ 122)) := by
      cases hy : l[j]? with
      | none => have := List.getElem?_eq_none_iff.1 hy; exact Or.inl (by omega)
      | some y =>
        refine Or.inr ⟨y, rfl, by have := (List.getElem?_eq_some_iff.1 hy).1; omega, ?_⟩
        rw [hy] at hlow
        have : ¬ (97 ≤ y.toNat ∧ y.toNat ≤ 122) := fun h => hlow (by simp [lowb, h])
        omega
    clear hlow
    rcases hexit with e1 | ⟨y, hy, e1, e2⟩
    rotate_left
    · obtain rfl : y = x := (by have h := HX.out; rw [← hzq] at h; exact Option.some.inj (hy.symm.trans h))
      clear hy
      rcases e2 with e2 | ⟨e2, e3⟩
      all_goals go_wp2_with fail
      all_goals
        (have PBk : PcBox wr X ⟨[], 0, 0, [], false, k, k, 0, false⟩ := by rw [hzq] at PBj; exact PBj
         clear p0 p1 p2 p3 p4 p5 p6 p7 p8 p9 p10 PBj
         obtain ⟨p0, p1, p2, p3, p4, p5, p6, p7, p8, p9, p10⟩ := id PBk
         refine H4.out _ _ ?_
         clear H4
         go_step
         rename_i K5 h5
         have H5 := Lib.hid h5
         clear h5
         go_wp2_with fail
         clear p0 p1 p2 p3 p4 p5 p6 p7 p8 p9 p10
         refine H5.out _ _ ?_
         clear H5
         go_step
         rename_i K6 h6
         have H6 := Lib.hid h6
         clear h6
         go_step
         rename_i K7 h7
         have H7 := Lib.hid h7
         clear h7
         go_wp2_with fail
         refine H7.out _ _ ?_
         clear H7
         go_step
         go_step
         rename_i K8 h8
         have H8 := Lib.hid h8
         clear h8
         obtain ⟨p0, p1, p2, p3, p4, p5, p6, p7, p8, p9, p10⟩ := id PBk
         go_wp2_with fail
         have PB2 := PBk.set4 true
         have XB2 := XBj.far (p := ⟨X, 4, none⟩) hd2 (.bool true)
         have hb2 := hbj.setCell (p := ⟨X, 4, none⟩) (by show w.heap.size ≤ X; omega) (.bool true)
         generalize wr.setCell ⟨X, 4, none⟩ (.bool true) = w2 at PB2 XB2 hb2 ⊢
         clear p0 p1 p2 p3 p4 p5 p6 p7 p8 p9 p10 PBk XBj hbj
         refine H8.out _ _ ?_
         clear H8
         go_step
         rename_i K9 h9
         have H9 := Lib.hid h9
         clear h9
         have g1 : ¬ (l.length : Int) < (k : Int) := by omega
         have g2 : ¬ (k : Int) < 0 := by omega
         have g3 : 0 ≤ (k : Int) ∧ (k : Int) ≤ (l.length : Int) := by omega
         have g4 : (k : Int) ≤ (l.length : Int) := by omega
         go_wp2_with fail
         refine (quotedRef_any (l.drop k) w2 (by rw [List.length_drop]; omega) (hT.below hb2)).mono ?_
         rw [hQ.out, show quRes (some (n, t)) = .returned (.tuple #[.int .i64 n, .string ⟨t.toArray⟩]) from rfl]
         rintro e w3 ⟨rfl, hb⟩
         have PB3 := PB2.keep hb
         have XB3 := XB2.keep hb
         have hb3 := chain hb2 hb
         clear hb PB2 XB2 hb2
         go_wp2_with fail
         refine H9.out _ _ ?_
         clear H9
         go_step
         rename_i K10 h10
         have H10 := Lib.hid h10
         clear h10
         go_step
         rename_i K11 h11
         have H11 := Lib.hid h11
         clear h11
         go_wp2_with fail
         refine H11.out _ _ ?_
         clear H11
         go_step
         go_step
         refine H10.out _ _ ?_
         clear H10
         have hkn' : (k : Int) + (n : Int) = (y2 : Int) := by omega
         go_step
         rename_i K13 h13
         have H13 := Lib.hid h13
         clear h13
         obtain ⟨p0, p1, p2, p3, p4, p5, p6, p7, p8, p9, p10⟩ := id PB3
         go_wp2_with (rw [hkn'])
         have PB13 := PB3.set6 y2
         have XB13 := XB3.far (p := ⟨X, 6, none⟩) hd2 (.int .i64 (y2 : Int))
         have hb13 := hb3.setCell (p := ⟨X, 6, none⟩) (by show w.heap.size ≤ X; omega) (.int .i64 (y2 : Int))
         change PcBox (w3.setCell ⟨X, 6, none⟩ (.int .i64 (y2 : Int))) _ _ at PB13
         generalize w3.setCell ⟨X, 6, none⟩ (.int .i64 (y2 : Int)) = w4 at PB13 XB13 hb13 ⊢
         clear p0 p1 p2 p3 p4 p5 p6 p7 p8 p9 p10 PB3 XB3 hb3
         refine H13.out _ _ ?_
         clear H13
         go_step
         rename_i K14 h14
         have H14 := Lib.hid h14
         clear h14
         obtain ⟨p0, p1, p2, p3, p4, p5, p6, p7, p8, p9, p10⟩ := id PB13
         go_wp2_with fail
         have PB14 := ((PB13.set1 3).set2 0).set3 t
         have XB14 := ((XB13.far (p := ⟨X, 1, none⟩) hd2 (.int .i64 3)).far (p := ⟨X, 2, none⟩) hd2 (.int .i64 0)).far (p := ⟨X, 3, none⟩) hd2 (.string ⟨t.toArray⟩)
         have hb14 := ((hb13.setCell (p := ⟨X, 1, none⟩) (by show w.heap.size ≤ X; omega) (.int .i64 3)).setCell (p := ⟨X, 2, none⟩) (by show w.heap.size ≤ X; omega) (.int .i64 0)).setCell (p := ⟨X, 3, none⟩) (by show w.heap.size ≤ X; omega) (.string ⟨t.toArray⟩)
         change PcBox (((w4.setCell ⟨X, 1, none⟩ (.int .i64 3)).setCell ⟨X, 2, none⟩ (.int .i64 0)).setCell ⟨X, 3, none⟩ (.string ⟨t.toArray⟩)) _ _ at PB14
         generalize (((w4.setCell ⟨X, 1, none⟩ (.int .i64 3)).setCell ⟨X, 2, none⟩ (.int .i64 0)).setCell ⟨X, 3, none⟩ (.string ⟨t.toArray⟩)) = w5 at PB14 XB14 hb14 ⊢
         clear p0 p1 p2 p3 p4 p5 p6 p7 p8 p9 p10 PB13 XB13 hb13
         refine H14.out _ _ ?_
         clear H14
         go_step
         rename_i K15 h15
         have H15 := Lib.hid h15
         clear h15
         go_step
         rename_i K15c h15c
         have H15c := Lib.hid h15c
         clear h15c
         go_wp2_with fail
         refine H15c.out _ _ ?_
         clear H15c
         go_step
         obtain ⟨p0, p1, p2, p3, p4, p5, p6, p7, p8, p9, p10⟩ := id PB14
         go_wp2_with fail
         have PB16 := PB14.set7 2
         have XB16 := XB14.far (p := ⟨X, 7, none⟩) hd2 (.int .i64 2)
         have hb16 := hb14.setCell (p := ⟨X, 7, none⟩) (by show w.heap.size ≤ X; omega) (.int .i64 2)
         generalize w5.setCell ⟨X, 7, none⟩ (.int .i64 2) = w6 at PB16 XB16 hb16 ⊢
         clear p0 p1 p2 p3 p4 p5 p6 p7 p8 p9 p10 PB14 XB14 hb14
         refine H15.out _ _ ?_
         clear H15
         go_step
         rename_i K9 h9
         have H9 := Lib.hid h9
         clear h9
         obtain ⟨p0, p1, p2, p3, p4, p5, p6, p7, p8, p9, p10⟩ := id PB16
         obtain ⟨x0, x1, x2, x3, x4, x5, x6, x7, x8, x9, x10⟩ := id XB16
         go_wp2_with fail
         obtain ⟨WF, hW⟩ : ∃ wF, (((((((((w6.setCell ⟨w.heap.size, 0, none⟩ (.string ⟨#[]⟩)).setCell ⟨w.heap.size, 1, none⟩ (.int .i64 3)).setCell ⟨w.heap.size, 2, none⟩ (.int .i64 0)).setCell ⟨w.heap.size, 3, none⟩ (.string ⟨t.toArray⟩)).setCell ⟨w.heap.size, 4, none⟩ (.bool true)).setCell ⟨w.heap.size, 5, none⟩ (.int .i64 (k : Int))).setCell ⟨w.heap.size, 6, none⟩ (.int .i64 (y2 : Int))).setCell ⟨w.heap.size, 7, none⟩ (.int .i64 2)).setCell ⟨w.heap.size, 8, none⟩ (.bool false)) = wF := ⟨_, rfl⟩
         rw [hW]
         obtain ⟨hF, hbF⟩ := pc_finish (c := ⟨[], 3, 0, t, true, k, y2, 2, false⟩) (Nat.le_refl _) hb16 XB16 hW
         clear hW p0 p1 p2 p3 p4 p5 p6 p7 p8 p9 p10 x0 x1 x2 x3 x4 x5 x6 x7 x8 x9 x10
         obtain ⟨d0, d1, d2, d3, d4, d5, d6, d7, d8, d9, d10⟩ := hF
         refine H9.out _ _ ?_
         clear H9
         go_step
         (try simp only [Exit.inBlock, Exit.then])
         refine bodyPost_ret (v := pcV ⟨[], 3, 0, t, true, k, y2, 2, false⟩) ?_ ?_ ?_
         · simp [results, Tryz.results56, go_sem, d0, d1, d2, d3, d4, d5, d6, d7, d8, pcV]
         · rfl
         · exact ⟨rfl, hbF⟩)
    · go_wp2_with fail
      (exfalso; omega)
set_option maxHeartbeats 4000000 in
theorem pc_wordT (l : Str) (p q : Nat) (op : Bool) (w : World) (hl : l.length ≤ 2000) (hp : p ≤ l.length) (hq : sk l p = q) (hql : q ≤ l.length) (hT : Tabs w) (x : UInt8) (hx : l[q]? = some x) (hW : Hid (wd l q = [116, 114, 117, 101])) (z : Nat) (hz : Hid (q + ((l.drop q).takeWhile lowb).length = z)) (hzq : q < z) :
    Calls Tryz.prog 56 #[.string ⟨l.toArray⟩, .int .i64 p, .bool op] w fun e w' => e = .returned (pcV ⟨[116, 114, 117, 101], 2, 1, [], true, q, z, 0, true⟩) ∧ Below w.heap.size w w' := by
  go_enter Tryz.func56, Tryz.ntmps56
  go_wp2_with fail
  have XB := new_pcbox w zeroPc 114
  have hbW : Below w.heap.size w (w.alloc (.cells #[.string ⟨#[]⟩, .int .i64 0, .int .i64 0, .string ⟨#[]⟩, .bool false, .int .i64 0, .int .i64 0, .int .i64 0, .bool false] 114)) := by go_grown
  change PcBox (w.alloc (.cells #[.string ⟨#[]⟩, .int .i64 0, .int .i64 0, .string ⟨#[]⟩, .bool false, .int .i64 0, .int .i64 0, .int .i64 0, .bool false] 114)) _ _ at XB
  generalize w.alloc (.cells #[.string ⟨#[]⟩, .int .i64 0, .int .i64 0, .string ⟨#[]⟩, .bool false, .int .i64 0, .int .i64 0, .int .i64 0, .bool false] 114) = w0 at XB hbW ⊢
  have HQ := Lib.hid hq
  clear hq
  go_loop [1] (fun i => ∃ k : Nat, k ≤ l.length ∧ i = .int .i64 k ∧ Hid (sk l k = q)) (fun i => l.length - (intOf i).toNat)
  case atStart => exact ⟨p, hp, rfl, HQ⟩
  case round =>
    obtain ⟨k, hk, rfl, hf⟩ := hrel
    by_cases hk32 : l[k]? = some 32
    · have hlt : k < l.length := (List.getElem?_eq_some_iff.1 hk32).1
      have E : (⟨l.toArray⟩ : ByteArray)[k]'(by simpa [ByteArray.size] using hlt) = 32 := byte_at' hk32 _
      have hlt' : (k : Int) < (l.length : Int) := by omega
      have hf' := Lib.hid ((sk_step hk32).symm.trans hf.out)
      clear hk32 hf
      go_wp2_with fail
      go_round
      case rel => exact ⟨k + 1, by omega, by go_num, hf'⟩
      case measure => simp [intOf]; omega
    have hkq : k = q := by
      rw [← hf.out]
      cases hx : l[k]? with
      | none => exact (sk_end (List.getElem?_eq_none_iff.1 hx)).symm
      | some x => exact (sk_stop hx (fun e => hk32 (by rw [hx, e]))).symm
    rename_i K1 h1 hww
    have H1 := Lib.hid h1
    clear h1 hf HQ hk hp hww
    obtain rfl := hkq
    have hx' := hx
    have hlt : k < l.length := (List.getElem?_eq_some_iff.1 hx).1
    have E : (⟨l.toArray⟩ : ByteArray)[k]'(by simpa [ByteArray.size] using hlt) = x := byte_at' hx _
    have hlt' : (k : Int) < (l.length : Int) := by omega
    have hx32 : ((x.toNat : Int) == 32) = false := by
      rw [beq_eq_false_iff_ne]
      intro e
      exact hk32 (by rw [hx]; exact congrArg some (UInt8.toNat.inj (by simpa using (by omega : x.toNat = 32))))
    have hq2 : ((k : Int) == (l.length : Int)) = false := by rw [beq_eq_false_iff_ne]; omega
    clear hk32
    have HX := Lib.hid hx'
    clear hx hx'
    go_wp2_with fail
    refine H1.out _ _ ?_
    clear H1
    go_step
    rename_i K2 h2
    have H2 := Lib.hid h2
    clear h2
    go_wp2_with fail
    have hX : w.heap.size < w0.heap.size := XB.lt
    have PB := new_pcbox w0 ⟨[], 0, 0, [], false, k, k, 0, false⟩ 114
    have hb1 : Below w0.heap.size w0 (w0.alloc (.cells #[.string ⟨#[]⟩, .int .i64 0, .int .i64 0, .string ⟨#[]⟩, .bool false, .int .i64 (k : Int), .int .i64 (k : Int), .int .i64 0, .bool false] 114)) := (Below.refl _ _).alloc (Nat.le_refl _) _
    change PcBox (w0.alloc (.cells #[.string ⟨#[]⟩, .int .i64 0, .int .i64 0, .string ⟨#[]⟩, .bool false, .int .i64 (k : Int), .int .i64 (k : Int), .int .i64 0, .bool false] 114)) _ _ at PB
    have XB1 := XB.keep hb1
    have hbW1 := chain hbW hb1
    generalize w0.alloc (.cells #[.string ⟨#[]⟩, .int .i64 0, .int .i64 0, .string ⟨#[]⟩, .bool false, .int .i64 (k : Int), .int .i64 (k : Int), .int .i64 0, .bool false] 114) = w1 at PB hb1 XB1 hbW1 ⊢
    clear hb1 XB hbW
    generalize w0.heap.size = X at PB hX ⊢
    try clear w0
    have hd1 : ¬ w.heap.size = X := by omega
    have hd2 : ¬ X = w.heap.size := by omega
    refine H2.out _ _ ?_
    clear H2
    go_step
    rename_i K3 h3
    have H3 := Lib.hid h3
    clear h3
    go_wp2_with fail
    refine H3.out _ _ ?_
    clear H3
    go_step
    rename_i K4 h4
    have H4 := Lib.hid h4
    clear h4
    go_step
    go_loopg [] l.length (fun gk wr => ∃ j : Nat, k ≤ j ∧ j ≤ l.length ∧ l.length ≤ gk + j ∧ Hid (j + ((l.drop j).takeWhile lowb).length = z) ∧ PcBox wr X ⟨[], 0, 0, [], false, k, j, 0, false⟩ ∧ PcBox wr w.heap.size zeroPc ∧ Below w.heap.size w wr)
    case atStart => exact ⟨k, Nat.le_refl _, hql, by omega, hz, PB, XB1, hbW1⟩
    case round =>
    clear PB XB1 hbW1
    obtain ⟨j, hkj, hj, hgk, hf, PBj, XBj, hbj⟩ := hrel
    obtain ⟨p0, p1, p2, p3, p4, p5, p6, p7, p8, p9, p10⟩ := id PBj
    by_cases hlow : (l[j]?.map lowb) = some true
    · obtain ⟨y, hy, hyl⟩ : ∃ y, l[j]? = some y ∧ lowb y = true := by
        cases h : l[j]? with
        | none => rw [h] at hlow; simp at hlow
        | some y => rw [h] at hlow; exact ⟨y, rfl, by simpa using hlow⟩
      have hjl : j < l.length := (List.getElem?_eq_some_iff.1 hy).1
      have E2 : (⟨l.toArray⟩ : ByteArray)[j]'(by simpa [ByteArray.size] using hjl) = y := byte_at' hy _
      have hjl' : (j : Int) < (l.length : Int) := by omega
      have hr : 97 ≤ y.toNat ∧ y.toNat ≤ 122 := by simpa [lowb] using hyl
      have c1 : (97 : Int) ≤ (y.toNat : Int) := by omega
      have c2 : (y.toNat : Int) ≤ 122 := by omega
      have hf' := hf.out
      rw [drop_at hy, List.takeWhile_cons, hyl, if_pos rfl, List.length_cons] at hf'
      have hF : Hid ((j + 1) + ((l.drop (j + 1)).takeWhile lowb).length = z) := Lib.hid (by omega)
      clear hf hf' hy hyl hlow hr
      go_wp2_with fail
      go_roundg (l.length - (j + 1))
      case measure => omega
      case rel => exact ⟨j + 1, by omega, by omega, by omega, hF, by simpa using PBj.set6 (j + 1), XBj.far hd2 _, hbj.setCell (by show w.heap.size ≤ X; omega) _⟩
    have hjz : j = z := by
      rw [← hf.out]
      cases hy : l[j]? with
      | none => rw [List.drop_eq_nil_of_le (List.getElem?_eq_none_iff.1 hy)]; rfl
      | some y =>
        rw [hy] at hlow
        cases hyl : lowb y with
        | true => exact absurd (by simp [hyl]) hlow
        | false => rw [drop_at hy, List.takeWhile_cons, hyl]; rfl
    clear hf
    obtain rfl := hjz
    have hexit : ¬ (j : Int) < (l.length : Int) ∨ ∃ y, l[j]? = some y ∧ (j : Int) < (l.length : Int) ∧ (¬ (97 : Int) ≤ (y.toNat : Int) ∨ ((97 : Int) ≤ (y.toNat : Int) ∧ ¬ (y.toNat : Int) ≤ 122)) := by
      cases hy : l[j]? with
      | none => have := List.getElem?_eq_none_iff.1 hy; exact Or.inl (by omega)
      | some y =>
        refine Or.inr ⟨y, rfl, by have := (List.getElem?_eq_some_iff.1 hy).1; omega, ?_⟩
        rw [hy] at hlow
        have : ¬ (97 ≤ y.toNat ∧ y.toNat ≤ 122) := fun h => hlow (by simp [lowb, h])
        omega
    clear hlow
    rcases hexit with e1 | ⟨y, hy, e1, e2⟩
    rotate_left
    · have E2 : (⟨l.toArray⟩ : ByteArray)[j]'(by simpa [ByteArray.size] using (by omega : j < l.length)) = y := byte_at' hy _
      clear hy
      rcases e2 with e2 | ⟨e2, e3⟩
      all_goals go_wp2_with fail
      all_goals
        (have hkj' : (k : Int) < (j : Int) := by omega
         have g6 : (j : Int) ≤ (l.length : Int) := by omega
         have g7 : (k : Int) ≤ (j : Int) := by omega
         refine H4.out _ _ ?_
         clear H4
         go_step
         go_step
         rename_i K5 h5
         have H5 := Lib.hid h5
         clear h5
         go_wp2_with fail
         refine H5.out _ _ ?_
         clear H5
         go_step
         go_step
         rename_i K7 h7
         have H7 := Lib.hid h7
         clear h7
         have hTk : (l.drop k).take (j - k) = [116, 114, 117, 101] := by
           have e := hz.out
           rw [show j - k = ((l.drop k).takeWhile lowb).length by omega, take_tw]
           exact hW.out
         go_wp2_with fail
         rw [ext_mid l k j, hTk]
         have PB2 := (PBj.set0 [116, 114, 117, 101]).set8 true
         have XB2 := (XBj.far (p := ⟨X, 0, none⟩) hd2 (.string ⟨([116, 114, 117, 101] : Str).toArray⟩)).far (p := ⟨X, 8, none⟩) hd2 (.bool true)
         have hb2 := (hbj.setCell (p := ⟨X, 0, none⟩) (by show w.heap.size ≤ X; omega) (.string ⟨([116, 114, 117, 101] : Str).toArray⟩)).setCell (p := ⟨X, 8, none⟩) (by show w.heap.size ≤ X; omega) (.bool true)
         generalize (wr.setCell ⟨X, 0, none⟩ (.string ⟨([116, 114, 117, 101] : Str).toArray⟩)).setCell ⟨X, 8, none⟩ (.bool true) = w3 at PB2 XB2 hb2 ⊢
         clear p0 p1 p2 p3 p4 p5 p6 p7 p8 p9 p10 PBj XBj hbj hTk
         refine H7.out _ _ ?_
         clear H7
         go_step
         rename_i K9 h9
         have H9 := Lib.hid h9
         clear h9
         go_step
         rename_i K8 h8
         have H8 := Lib.hid h8
         clear h8
         obtain ⟨p0, p1, p2, p3, p4, p5, p6, p7, p8, p9, p10⟩ := id PB2
         go_wp2_with fail
         clear p0 p1 p2 p3 p4 p5 p6 p7 p8 p9 p10
         refine H8.out _ _ ?_
         clear H8
         go_step
         go_step
         rename_i K10 h10
         have H10 := Lib.hid h10
         clear h10
         obtain ⟨p0, p1, p2, p3, p4, p5, p6, p7, p8, p9, p10⟩ := id PB2
         go_wp2_with fail
         have PB3 := PB2.set4 true
         have XB3 := XB2.far (p := ⟨X, 4, none⟩) hd2 (.bool true)
         have hb3 := hb2.setCell (p := ⟨X, 4, none⟩) (by show w.heap.size ≤ X; omega) (.bool true)
         generalize w3.setCell ⟨X, 4, none⟩ (.bool true) = w4 at PB3 XB3 hb3 ⊢
         clear p0 p1 p2 p3 p4 p5 p6 p7 p8 p9 p10 PB2 XB2 hb2
         refine H10.out _ _ ?_
         clear H10
         obtain ⟨p0, p1, p2, p3, p4, p5, p6, p7, p8, p9, p10⟩ := id PB3
         go_wp2_with fail
         refine (readRef_any [116, 114, 117, 101] w4 (by decide) (hT.below hb3)).mono ?_
         rw [show vRes (rdR [116, 114, 117, 101]) = .tuple #[.agg #[.int .i64 2, .int .i64 1, .string ⟨#[]⟩], .int .i64 0] by rfl]
         rintro e w5 ⟨rfl, hb5⟩
         have PB5 := PB3.keep hb5
         have XB5 := XB3.keep hb5
         have hb6 := chain hb3 hb5
         clear p0 p1 p2 p3 p4 p5 p6 p7 p8 p9 p10 PB3 XB3 hb3 hb5
         obtain ⟨p0, p1, p2, p3, p4, p5, p6, p7, p8, p9, p10⟩ := id PB5
         go_wp2_with fail
         have PB7 := ((PB5.set1 2).set2 1).set3 []
         have XB7 := ((XB5.far (p := ⟨X, 1, none⟩) hd2 (.int .i64 2)).far (p := ⟨X, 2, none⟩) hd2 (.int .i64 1)).far (p := ⟨X, 3, none⟩) hd2 (.string ⟨#[]⟩)
         have hb7 := ((hb6.setCell (p := ⟨X, 1, none⟩) (by show w.heap.size ≤ X; omega) (.int .i64 2)).setCell (p := ⟨X, 2, none⟩) (by show w.heap.size ≤ X; omega) (.int .i64 1)).setCell (p := ⟨X, 3, none⟩) (by show w.heap.size ≤ X; omega) (.string ⟨#[]⟩)
         change PcBox (((w5.setCell ⟨X, 1, none⟩ (.int .i64 2)).setCell ⟨X, 2, none⟩ (.int .i64 1)).setCell ⟨X, 3, none⟩ (.string ⟨#[]⟩)) _ _ at PB7
         generalize ((w5.setCell ⟨X, 1, none⟩ (.int .i64 2)).setCell ⟨X, 2, none⟩ (.int .i64 1)).setCell ⟨X, 3, none⟩ (.string ⟨#[]⟩) = w7 at PB7 XB7 hb7 ⊢
         clear p0 p1 p2 p3 p4 p5 p6 p7 p8 p9 p10 PB5 XB5 hb6
         refine H9.out _ _ ?_
         clear H9
         go_step
         rename_i K9 h9
         have H9 := Lib.hid h9
         clear h9
         obtain ⟨p0, p1, p2, p3, p4, p5, p6, p7, p8, p9, p10⟩ := id PB7
         obtain ⟨x0, x1, x2, x3, x4, x5, x6, x7, x8, x9, x10⟩ := id XB7
         go_wp2_with fail
         obtain ⟨WF, hW⟩ : ∃ wF, (((((((((w7.setCell ⟨w.heap.size, 0, none⟩ (.string ⟨([116, 114, 117, 101] : Str).toArray⟩)).setCell ⟨w.heap.size, 1, none⟩ (.int .i64 2)).setCell ⟨w.heap.size, 2, none⟩ (.int .i64 1)).setCell ⟨w.heap.size, 3, none⟩ (.string ⟨#[]⟩)).setCell ⟨w.heap.size, 4, none⟩ (.bool true)).setCell ⟨w.heap.size, 5, none⟩ (.int .i64 (k : Int))).setCell ⟨w.heap.size, 6, none⟩ (.int .i64 (j : Int))).setCell ⟨w.heap.size, 7, none⟩ (.int .i64 0)).setCell ⟨w.heap.size, 8, none⟩ (.bool true)) = wF := ⟨_, rfl⟩
         rw [hW]
         obtain ⟨hF, hbF⟩ := pc_finish (c := ⟨[116, 114, 117, 101], 2, 1, [], true, k, j, 0, true⟩) (Nat.le_refl _) hb7 XB7 hW
         clear hW p0 p1 p2 p3 p4 p5 p6 p7 p8 p9 p10 x0 x1 x2 x3 x4 x5 x6 x7 x8 x9 x10
         obtain ⟨d0, d1, d2, d3, d4, d5, d6, d7, d8, d9, d10⟩ := hF
         refine H9.out _ _ ?_
         clear H9
         go_step
         (try simp only [Exit.inBlock, Exit.then])
         refine bodyPost_ret (v := pcV ⟨[116, 114, 117, 101], 2, 1, [], true, k, j, 0, true⟩) ?_ ?_ ?_
         · simp [results, Tryz.results56, go_sem, d0, d1, d2, d3, d4, d5, d6, d7, d8, pcV]
         · rfl
         · exact ⟨rfl, hbF⟩)
    · go_wp2_with fail
      have hkj' : (k : Int) < (j : Int) := by omega
      have g6 : (j : Int) ≤ (l.length : Int) := by omega
      have g7 : (k : Int) ≤ (j : Int) := by omega
      refine H4.out _ _ ?_
      clear H4
      go_step
      go_step
      rename_i K5 h5
      have H5 := Lib.hid h5
      clear h5
      go_wp2_with fail
      refine H5.out _ _ ?_
      clear H5
      go_step
      go_step
      rename_i K7 h7
      have H7 := Lib.hid h7
      clear h7
      have hTk : (l.drop k).take (j - k) = [116, 114, 117, 101] := by
        have e := hz.out
        rw [show j - k = ((l.drop k).takeWhile lowb).length by omega, take_tw]
        exact hW.out
      go_wp2_with fail
      rw [ext_mid l k j, hTk]
      have PB2 := (PBj.set0 [116, 114, 117, 101]).set8 true
      have XB2 := (XBj.far (p := ⟨X, 0, none⟩) hd2 (.string ⟨([116, 114, 117, 101] : Str).toArray⟩)).far (p := ⟨X, 8, none⟩) hd2 (.bool true)
      have hb2 := (hbj.setCell (p := ⟨X, 0, none⟩) (by show w.heap.size ≤ X; omega) (.string ⟨([116, 114, 117, 101] : Str).toArray⟩)).setCell (p := ⟨X, 8, none⟩) (by show w.heap.size ≤ X; omega) (.bool true)
      generalize (wr.setCell ⟨X, 0, none⟩ (.string ⟨([116, 114, 117, 101] : Str).toArray⟩)).setCell ⟨X, 8, none⟩ (.bool true) = w3 at PB2 XB2 hb2 ⊢
      clear p0 p1 p2 p3 p4 p5 p6 p7 p8 p9 p10 PBj XBj hbj hTk
      refine H7.out _ _ ?_
      clear H7
      go_step
      rename_i K9 h9
      have H9 := Lib.hid h9
      clear h9
      go_step
      rename_i K8 h8
      have H8 := Lib.hid h8
      clear h8
      obtain ⟨p0, p1, p2, p3, p4, p5, p6, p7, p8, p9, p10⟩ := id PB2
      go_wp2_with fail
      clear p0 p1 p2 p3 p4 p5 p6 p7 p8 p9 p10
      refine H8.out _ _ ?_
      clear H8
      go_step
      go_step
      rename_i K10 h10
      have H10 := Lib.hid h10
      clear h10
      obtain ⟨p0, p1, p2, p3, p4, p5, p6, p7, p8, p9, p10⟩ := id PB2
      go_wp2_with fail
      have PB3 := PB2.set4 true
      have XB3 := XB2.far (p := ⟨X, 4, none⟩) hd2 (.bool true)
      have hb3 := hb2.setCell (p := ⟨X, 4, none⟩) (by show w.heap.size ≤ X; omega) (.bool true)
      generalize w3.setCell ⟨X, 4, none⟩ (.bool true) = w4 at PB3 XB3 hb3 ⊢
      clear p0 p1 p2 p3 p4 p5 p6 p7 p8 p9 p10 PB2 XB2 hb2
      refine H10.out _ _ ?_
      clear H10
      obtain ⟨p0, p1, p2, p3, p4, p5, p6, p7, p8, p9, p10⟩ := id PB3
      go_wp2_with fail
      refine (readRef_any [116, 114, 117, 101] w4 (by decide) (hT.below hb3)).mono ?_
      rw [show vRes (rdR [116, 114, 117, 101]) = .tuple #[.agg #[.int .i64 2, .int .i64 1, .string ⟨#[]⟩], .int .i64 0] by rfl]
      rintro e w5 ⟨rfl, hb5⟩
      have PB5 := PB3.keep hb5
      have XB5 := XB3.keep hb5
      have hb6 := chain hb3 hb5
      clear p0 p1 p2 p3 p4 p5 p6 p7 p8 p9 p10 PB3 XB3 hb3 hb5
      obtain ⟨p0, p1, p2, p3, p4, p5, p6, p7, p8, p9, p10⟩ := id PB5
      go_wp2_with fail
      have PB7 := ((PB5.set1 2).set2 1).set3 []
      have XB7 := ((XB5.far (p := ⟨X, 1, none⟩) hd2 (.int .i64 2)).far (p := ⟨X, 2, none⟩) hd2 (.int .i64 1)).far (p := ⟨X, 3, none⟩) hd2 (.string ⟨#[]⟩)
      have hb7 := ((hb6.setCell (p := ⟨X, 1, none⟩) (by show w.heap.size ≤ X; omega) (.int .i64 2)).setCell (p := ⟨X, 2, none⟩) (by show w.heap.size ≤ X; omega) (.int .i64 1)).setCell (p := ⟨X, 3, none⟩) (by show w.heap.size ≤ X; omega) (.string ⟨#[]⟩)
      change PcBox (((w5.setCell ⟨X, 1, none⟩ (.int .i64 2)).setCell ⟨X, 2, none⟩ (.int .i64 1)).setCell ⟨X, 3, none⟩ (.string ⟨#[]⟩)) _ _ at PB7
      generalize ((w5.setCell ⟨X, 1, none⟩ (.int .i64 2)).setCell ⟨X, 2, none⟩ (.int .i64 1)).setCell ⟨X, 3, none⟩ (.string ⟨#[]⟩) = w7 at PB7 XB7 hb7 ⊢
      clear p0 p1 p2 p3 p4 p5 p6 p7 p8 p9 p10 PB5 XB5 hb6
      refine H9.out _ _ ?_
      clear H9
      go_step
      rename_i K9 h9
      have H9 := Lib.hid h9
      clear h9
      obtain ⟨p0, p1, p2, p3, p4, p5, p6, p7, p8, p9, p10⟩ := id PB7
      obtain ⟨x0, x1, x2, x3, x4, x5, x6, x7, x8, x9, x10⟩ := id XB7
      go_wp2_with fail
      obtain ⟨WF, hW⟩ : ∃ wF, (((((((((w7.setCell ⟨w.heap.size, 0, none⟩ (.string ⟨([116, 114, 117, 101] : Str).toArray⟩)).setCell ⟨w.heap.size, 1, none⟩ (.int .i64 2)).setCell ⟨w.heap.size, 2, none⟩ (.int .i64 1)).setCell ⟨w.heap.size, 3, none⟩ (.string ⟨#[]⟩)).setCell ⟨w.heap.size, 4, none⟩ (.bool true)).setCell ⟨w.heap.size, 5, none⟩ (.int .i64 (k : Int))).setCell ⟨w.heap.size, 6, none⟩ (.int .i64 (j : Int))).setCell ⟨w.heap.size, 7, none⟩ (.int .i64 0)).setCell ⟨w.heap.size, 8, none⟩ (.bool true)) = wF := ⟨_, rfl⟩
      rw [hW]
      obtain ⟨hF, hbF⟩ := pc_finish (c := ⟨[116, 114, 117, 101], 2, 1, [], true, k, j, 0, true⟩) (Nat.le_refl _) hb7 XB7 hW
      clear hW p0 p1 p2 p3 p4 p5 p6 p7 p8 p9 p10 x0 x1 x2 x3 x4 x5 x6 x7 x8 x9 x10
      obtain ⟨d0, d1, d2, d3, d4, d5, d6, d7, d8, d9, d10⟩ := hF
      refine H9.out _ _ ?_
      clear H9
      go_step
      (try simp only [Exit.inBlock, Exit.then])
      refine bodyPost_ret (v := pcV ⟨[116, 114, 117, 101], 2, 1, [], true, k, j, 0, true⟩) ?_ ?_ ?_
      · simp [results, Tryz.results56, go_sem, d0, d1, d2, d3, d4, d5, d6, d7, d8, pcV]
      · rfl
      · exact ⟨rfl, hbF⟩

set_option maxHeartbeats 4000000 in
theorem pc_wordF (l : Str) (p q : Nat) (op : Bool) (w : World) (hl : l.length ≤ 2000) (hp : p ≤ l.length) (hq : sk l p = q) (hql : q ≤ l.length) (hT : Tabs w) (x : UInt8) (hx : l[q]? = some x) (hW : Hid (wd l q = [102, 97, 108, 115, 101])) (z : Nat) (hz : Hid (q + ((l.drop q).takeWhile lowb).length = z)) (hzq : q < z) :
    Calls Tryz.prog 56 #[.string ⟨l.toArray⟩, .int .i64 p, .bool op] w fun e w' => e = .returned (pcV ⟨[102, 97, 108, 115, 101], 2, 0, [], true, q, z, 0, true⟩) ∧ Below w.heap.size w w' := by
  go_enter Tryz.func56, Tryz.ntmps56
  go_wp2_with fail
  have XB := new_pcbox w zeroPc 114
  have hbW : Below w.heap.size w (w.alloc (.cells #[.string ⟨#[]⟩, .int .i64 0, .int .i64 0, .string ⟨#[]⟩, .bool false, .int .i64 0, .int .i64 0, .int .i64 0, .bool false] 114)) := by go_grown
  change PcBox (w.alloc (.cells #[.string ⟨#[]⟩, .int .i64 0, .int .i64 0, .string ⟨#[]⟩, .bool false, .int .i64 0, .int .i64 0, .int .i64 0, .bool false] 114)) _ _ at XB
  generalize w.alloc (.cells #[.string ⟨#[]⟩, .int .i64 0, .int .i64 0, .string ⟨#[]⟩, .bool false, .int .i64 0, .int .i64 0, .int .i64 0, .bool false] 114) = w0 at XB hbW ⊢
  have HQ := Lib.hid hq
  clear hq
  go_loop [1] (fun i => ∃ k : Nat, k ≤ l.length ∧ i = .int .i64 k ∧ Hid (sk l k = q)) (fun i => l.length - (intOf i).toNat)
  case atStart => exact ⟨p, hp, rfl, HQ⟩
  case round =>
    obtain ⟨k, hk, rfl, hf⟩ := hrel
    by_cases hk32 : l[k]? = some 32
    · have hlt : k < l.length := (List.getElem?_eq_some_iff.1 hk32).1
      have E : (⟨l.toArray⟩ : ByteArray)[k]'(by simpa [ByteArray.size] using hlt) = 32 := byte_at' hk32 _
      have hlt' : (k : Int) < (l.length : Int) := by omega
      have hf' := Lib.hid ((sk_step hk32).symm.trans hf.out)
      clear hk32 hf
      go_wp2_with fail
      go_round
      case rel => exact ⟨k + 1, by omega, by go_num, hf'⟩
      case measure => simp [intOf]; omega
    have hkq : k = q := by
      rw [← hf.out]
      cases hx : l[k]? with
      | none => exact (sk_end (List.getElem?_eq_none_iff.1 hx)).symm
      | some x => exact (sk_stop hx (fun e => hk32 (by rw [hx, e]))).symm
    rename_i K1 h1 hww
    have H1 := Lib.hid h1
    clear h1 hf HQ hk hp hww
    obtain rfl := hkq
    have hx' := hx
    have hlt : k < l.length := (List.getElem?_eq_some_iff.1 hx).1
    have E : (⟨l.toArray⟩ : ByteArray)[k]'(by simpa [ByteArray.size] using hlt) = x := byte_at' hx _
    have hlt' : (k : Int) < (l.length : Int) := by omega
    have hx32 : ((x.toNat : Int) == 32) = false := by
      rw [beq_eq_false_iff_ne]
      intro e
      exact hk32 (by rw [hx]; exact congrArg some (UInt8.toNat.inj (by simpa using (by omega : x.toNat = 32))))
    have hq2 : ((k : Int) == (l.length : Int)) = false := by rw [beq_eq_false_iff_ne]; omega
    clear hk32
    have HX := Lib.hid hx'
    clear hx hx'
    go_wp2_with fail
    refine H1.out _ _ ?_
    clear H1
    go_step
    rename_i K2 h2
    have H2 := Lib.hid h2
    clear h2
    go_wp2_with fail
    have hX : w.heap.size < w0.heap.size := XB.lt
    have PB := new_pcbox w0 ⟨[], 0, 0, [], false, k, k, 0, false⟩ 114
    have hb1 : Below w0.heap.size w0 (w0.alloc (.cells #[.string ⟨#[]⟩, .int .i64 0, .int .i64 0, .string ⟨#[]⟩, .bool false, .int .i64 (k : Int), .int .i64 (k : Int), .int .i64 0, .bool false] 114)) := (Below.refl _ _).alloc (Nat.le_refl _) _
    change PcBox (w0.alloc (.cells #[.string ⟨#[]⟩, .int .i64 0, .int .i64 0, .string ⟨#[]⟩, .bool false, .int .i64 (k : Int), .int .i64 (k : Int), .int .i64 0, .bool false] 114)) _ _ at PB
    have XB1 := XB.keep hb1
    have hbW1 := chain hbW hb1
    generalize w0.alloc (.cells #[.string ⟨#[]⟩, .int .i64 0, .int .i64 0, .string ⟨#[]⟩, .bool false, .int .i64 (k : Int), .int .i64 (k : Int), .int .i64 0, .bool false] 114) = w1 at PB hb1 XB1 hbW1 ⊢
    clear hb1 XB hbW
    generalize w0.heap.size = X at PB hX ⊢
    try clear w0
    have hd1 : ¬ w.heap.size = X := by omega
    have hd2 : ¬ X = w.heap.size := by omega
    refine H2.out _ _ ?_
    clear H2
    go_step
    rename_i K3 h3
    have H3 := Lib.hid h3
    clear h3
    go_wp2_with fail
    refine H3.out _ _ ?_
    clear H3
    go_step
    rename_i K4 h4
    have H4 := Lib.hid h4
    clear h4
    go_step
    go_loopg [] l.length (fun gk wr => ∃ j : Nat, k ≤ j ∧ j ≤ l.length ∧ l.length ≤ gk + j ∧ Hid (j + ((l.drop j).takeWhile lowb).length = z) ∧ PcBox wr X ⟨[], 0, 0, [], false, k, j, 0, false⟩ ∧ PcBox wr w.heap.size zeroPc ∧ Below w.heap.size w wr)
    case atStart => exact ⟨k, Nat.le_refl _, hql, by omega, hz, PB, XB1, hbW1⟩
    case round =>
    clear PB XB1 hbW1
    obtain ⟨j, hkj, hj, hgk, hf, PBj, XBj, hbj⟩ := hrel
    obtain ⟨p0, p1, p2, p3, p4, p5, p6, p7, p8, p9, p10⟩ := id PBj
    by_cases hlow : (l[j]?.map lowb) = some true
    · obtain ⟨y, hy, hyl⟩ : ∃ y, l[j]? = some y ∧ lowb y = true := by
        cases h : l[j]? with
        | none => rw [h] at hlow; simp at hlow
        | some y => rw [h] at hlow; exact ⟨y, rfl, by simpa using hlow⟩
      have hjl : j < l.length := (List.getElem?_eq_some_iff.1 hy).1
      have E2 : (⟨l.toArray⟩ : ByteArray)[j]'(by simpa [ByteArray.size] using hjl) = y := byte_at' hy _
      have hjl' : (j : Int) < (l.length : Int) := by omega
      have hr : 97 ≤ y.toNat ∧ y.toNat ≤ 122 := by simpa [lowb] using hyl
      have c1 : (97 : Int) ≤ (y.toNat : Int) := by omega
      have c2 : (y.toNat : Int) ≤ 122 := by omega
      have hf' := hf.out
      rw [drop_at hy, List.takeWhile_cons, hyl, if_pos rfl, List.length_cons] at hf'
      have hF : Hid ((j + 1) + ((l.drop (j + 1)).takeWhile lowb).length = z) := Lib.hid (by omega)
      clear hf hf' hy hyl hlow hr
      go_wp2_with fail
      go_roundg (l.length - (j + 1))
      case measure => omega
      case rel => exact ⟨j + 1, by omega, by omega, by omega, hF, by simpa using PBj.set6 (j + 1), XBj.far hd2 _, hbj.setCell (by show w.heap.size ≤ X; omega) _⟩
    have hjz : j = z := by
      rw [← hf.out]
      cases hy : l[j]? with
      | none => rw [List.drop_eq_nil_of_le (List.getElem?_eq_none_iff.1 hy)]; rfl
      | some y =>
        rw [hy] at hlow
        cases hyl : lowb y with
        | true => exact absurd (by simp [hyl]) hlow
        | false => rw [drop_at hy, List.takeWhile_cons, hyl]; rfl
    clear hf
    obtain rfl := hjz
    have hexit : ¬ (j : Int) < (l.length : Int) ∨ ∃ y, l[j]? = some y ∧ (j : Int) < (l.length : Int) ∧ (¬ (97 : Int) ≤ (y.toNat : Int) ∨ ((97 : Int) ≤ (y.toNat : Int) ∧ ¬ (y.toNat : Int) ≤ 122)) := by
      cases hy : l[j]? with
      | none => have := List.getElem?_eq_none_iff.1 hy; exact Or.inl (by omega)
      | some y =>
        refine Or.inr ⟨y, rfl, by have := (List.getElem?_eq_some_iff.1 hy).1; omega, ?_⟩
        rw [hy] at hlow
        have : ¬ (97 ≤ y.toNat ∧ y.toNat ≤ 122) := fun h => hlow (by simp [lowb, h])
        omega
    clear hlow
    rcases hexit with e1 | ⟨y, hy, e1, e2⟩
    rotate_left
    · have E2 : (⟨l.toArray⟩ : ByteArray)[j]'(by simpa [ByteArray.size] using (by omega : j < l.length)) = y := byte_at' hy _
      clear hy
      rcases e2 with e2 | ⟨e2, e3⟩
      all_goals go_wp2_with fail
      all_goals
        (have hkj' : (k : Int) < (j : Int) := by omega
         have g6 : (j : Int) ≤ (l.length : Int) := by omega
         have g7 : (k : Int) ≤ (j : Int) := by omega
         refine H4.out _ _ ?_
         clear H4
         go_step
         go_step
         rename_i K5 h5
         have H5 := Lib.hid h5
         clear h5
         go_wp2_with fail
         refine H5.out _ _ ?_
         clear H5
         go_step
         go_step
         rename_i K7 h7
         have H7 := Lib.hid h7
         clear h7
         have hTk : (l.drop k).take (j - k) = [102, 97, 108, 115, 101] := by
           have e := hz.out
           rw [show j - k = ((l.drop k).takeWhile lowb).length by omega, take_tw]
           exact hW.out
         go_wp2_with fail
         rw [ext_mid l k j, hTk]
         have PB2 := (PBj.set0 [102, 97, 108, 115, 101]).set8 true
         have XB2 := (XBj.far (p := ⟨X, 0, none⟩) hd2 (.string ⟨([102, 97, 108, 115, 101] : Str).toArray⟩)).far (p := ⟨X, 8, none⟩) hd2 (.bool true)
         have hb2 := (hbj.setCell (p := ⟨X, 0, none⟩) (by show w.heap.size ≤ X; omega) (.string ⟨([102, 97, 108, 115, 101] : Str).toArray⟩)).setCell (p := ⟨X, 8, none⟩) (by show w.heap.size ≤ X; omega) (.bool true)
         generalize (wr.setCell ⟨X, 0, none⟩ (.string ⟨([102, 97, 108, 115, 101] : Str).toArray⟩)).setCell ⟨X, 8, none⟩ (.bool true) = w3 at PB2 XB2 hb2 ⊢
         clear p0 p1 p2 p3 p4 p5 p6 p7 p8 p9 p10 PBj XBj hbj hTk
         refine H7.out _ _ ?_
         clear H7
         go_step
         rename_i K9 h9
         have H9 := Lib.hid h9
         clear h9
         go_step
         rename_i K8 h8
         have H8 := Lib.hid h8
         clear h8
         obtain ⟨p0, p1, p2, p3, p4, p5, p6, p7, p8, p9, p10⟩ := id PB2
         go_wp2_with fail
         clear p0 p1 p2 p3 p4 p5 p6 p7 p8 p9 p10
         refine H8.out _ _ ?_
         clear H8
         go_step
         go_step
         rename_i K10 h10
         have H10 := Lib.hid h10
         clear h10
         obtain ⟨p0, p1, p2, p3, p4, p5, p6, p7, p8, p9, p10⟩ := id PB2
         go_wp2_with fail
         have PB3 := PB2.set4 true
         have XB3 := XB2.far (p := ⟨X, 4, none⟩) hd2 (.bool true)
         have hb3 := hb2.setCell (p := ⟨X, 4, none⟩) (by show w.heap.size ≤ X; omega) (.bool true)
         generalize w3.setCell ⟨X, 4, none⟩ (.bool true) = w4 at PB3 XB3 hb3 ⊢
         clear p0 p1 p2 p3 p4 p5 p6 p7 p8 p9 p10 PB2 XB2 hb2
         refine H10.out _ _ ?_
         clear H10
         obtain ⟨p0, p1, p2, p3, p4, p5, p6, p7, p8, p9, p10⟩ := id PB3
         go_wp2_with fail
         refine (readRef_any [102, 97, 108, 115, 101] w4 (by decide) (hT.below hb3)).mono ?_
         rw [show vRes (rdR [102, 97, 108, 115, 101]) = .tuple #[.agg #[.int .i64 2, .int .i64 0, .string ⟨#[]⟩], .int .i64 0] by rfl]
         rintro e w5 ⟨rfl, hb5⟩
         have PB5 := PB3.keep hb5
         have XB5 := XB3.keep hb5
         have hb6 := chain hb3 hb5
         clear p0 p1 p2 p3 p4 p5 p6 p7 p8 p9 p10 PB3 XB3 hb3 hb5
         obtain ⟨p0, p1, p2, p3, p4, p5, p6, p7, p8, p9, p10⟩ := id PB5
         go_wp2_with fail
         have PB7 := ((PB5.set1 2).set2 0).set3 []
         have XB7 := ((XB5.far (p := ⟨X, 1, none⟩) hd2 (.int .i64 2)).far (p := ⟨X, 2, none⟩) hd2 (.int .i64 0)).far (p := ⟨X, 3, none⟩) hd2 (.string ⟨#[]⟩)
         have hb7 := ((hb6.setCell (p := ⟨X, 1, none⟩) (by show w.heap.size ≤ X; omega) (.int .i64 2)).setCell (p := ⟨X, 2, none⟩) (by show w.heap.size ≤ X; omega) (.int .i64 0)).setCell (p := ⟨X, 3, none⟩) (by show w.heap.size ≤ X; omega) (.string ⟨#[]⟩)
         change PcBox (((w5.setCell ⟨X, 1, none⟩ (.int .i64 2)).setCell ⟨X, 2, none⟩ (.int .i64 0)).setCell ⟨X, 3, none⟩ (.string ⟨#[]⟩)) _ _ at PB7
         generalize ((w5.setCell ⟨X, 1, none⟩ (.int .i64 2)).setCell ⟨X, 2, none⟩ (.int .i64 0)).setCell ⟨X, 3, none⟩ (.string ⟨#[]⟩) = w7 at PB7 XB7 hb7 ⊢
         clear p0 p1 p2 p3 p4 p5 p6 p7 p8 p9 p10 PB5 XB5 hb6
         refine H9.out _ _ ?_
         clear H9
         go_step
         rename_i K9 h9
         have H9 := Lib.hid h9
         clear h9
         obtain ⟨p0, p1, p2, p3, p4, p5, p6, p7, p8, p9, p10⟩ := id PB7
         obtain ⟨x0, x1, x2, x3, x4, x5, x6, x7, x8, x9, x10⟩ := id XB7
         go_wp2_with fail
         obtain ⟨WF, hW⟩ : ∃ wF, (((((((((w7.setCell ⟨w.heap.size, 0, none⟩ (.string ⟨([102, 97, 108, 115, 101] : Str).toArray⟩)).setCell ⟨w.heap.size, 1, none⟩ (.int .i64 2)).setCell ⟨w.heap.size, 2, none⟩ (.int .i64 0)).setCell ⟨w.heap.size, 3, none⟩ (.string ⟨#[]⟩)).setCell ⟨w.heap.size, 4, none⟩ (.bool true)).setCell ⟨w.heap.size, 5, none⟩ (.int .i64 (k : Int))).setCell ⟨w.heap.size, 6, none⟩ (.int .i64 (j : Int))).setCell ⟨w.heap.size, 7, none⟩ (.int .i64 0)).setCell ⟨w.heap.size, 8, none⟩ (.bool true)) = wF := ⟨_, rfl⟩
         rw [hW]
         obtain ⟨hF, hbF⟩ := pc_finish (c := ⟨[102, 97, 108, 115, 101], 2, 0, [], true, k, j, 0, true⟩) (Nat.le_refl _) hb7 XB7 hW
         clear hW p0 p1 p2 p3 p4 p5 p6 p7 p8 p9 p10 x0 x1 x2 x3 x4 x5 x6 x7 x8 x9 x10
         obtain ⟨d0, d1, d2, d3, d4, d5, d6, d7, d8, d9, d10⟩ := hF
         refine H9.out _ _ ?_
         clear H9
         go_step
         (try simp only [Exit.inBlock, Exit.then])
         refine bodyPost_ret (v := pcV ⟨[102, 97, 108, 115, 101], 2, 0, [], true, k, j, 0, true⟩) ?_ ?_ ?_
         · simp [results, Tryz.results56, go_sem, d0, d1, d2, d3, d4, d5, d6, d7, d8, pcV]
         · rfl
         · exact ⟨rfl, hbF⟩)
    · go_wp2_with fail
      have hkj' : (k : Int) < (j : Int) := by omega
      have g6 : (j : Int) ≤ (l.length : Int) := by omega
      have g7 : (k : Int) ≤ (j : Int) := by omega
      refine H4.out _ _ ?_
      clear H4
      go_step
      go_step
      rename_i K5 h5
      have H5 := Lib.hid h5
      clear h5
      go_wp2_with fail
      refine H5.out _ _ ?_
      clear H5
      go_step
      go_step
      rename_i K7 h7
      have H7 := Lib.hid h7
      clear h7
      have hTk : (l.drop k).take (j - k) = [102, 97, 108, 115, 101] := by
        have e := hz.out
        rw [show j - k = ((l.drop k).takeWhile lowb).length by omega, take_tw]
        exact hW.out
      go_wp2_with fail
      rw [ext_mid l k j, hTk]
      have PB2 := (PBj.set0 [102, 97, 108, 115, 101]).set8 true
      have XB2 := (XBj.far (p := ⟨X, 0, none⟩) hd2 (.string ⟨([102, 97, 108, 115, 101] : Str).toArray⟩)).far (p := ⟨X, 8, none⟩) hd2 (.bool true)
      have hb2 := (hbj.setCell (p := ⟨X, 0, none⟩) (by show w.heap.size ≤ X; omega) (.string ⟨([102, 97, 108, 115, 101] : Str).toArray⟩)).setCell (p := ⟨X, 8, none⟩) (by show w.heap.size ≤ X; omega) (.bool true)
      generalize (wr.setCell ⟨X, 0, none⟩ (.string ⟨([102, 97, 108, 115, 101] : Str).toArray⟩)).setCell ⟨X, 8, none⟩ (.bool true) = w3 at PB2 XB2 hb2 ⊢
      clear p0 p1 p2 p3 p4 p5 p6 p7 p8 p9 p10 PBj XBj hbj hTk
      refine H7.out _ _ ?_
      clear H7
      go_step
      rename_i K9 h9
      have H9 := Lib.hid h9
      clear h9
      go_step
      rename_i K8 h8
      have H8 := Lib.hid h8
      clear h8
      obtain ⟨p0, p1, p2, p3, p4, p5, p6, p7, p8, p9, p10⟩ := id PB2
      go_wp2_with fail
      clear p0 p1 p2 p3 p4 p5 p6 p7 p8 p9 p10
      refine H8.out _ _ ?_
      clear H8
      go_step
      go_step
      rename_i K10 h10
      have H10 := Lib.hid h10
      clear h10
      obtain ⟨p0, p1, p2, p3, p4, p5, p6, p7, p8, p9, p10⟩ := id PB2
      go_wp2_with fail
      have PB3 := PB2.set4 true
      have XB3 := XB2.far (p := ⟨X, 4, none⟩) hd2 (.bool true)
      have hb3 := hb2.setCell (p := ⟨X, 4, none⟩) (by show w.heap.size ≤ X; omega) (.bool true)
      generalize w3.setCell ⟨X, 4, none⟩ (.bool true) = w4 at PB3 XB3 hb3 ⊢
      clear p0 p1 p2 p3 p4 p5 p6 p7 p8 p9 p10 PB2 XB2 hb2
      refine H10.out _ _ ?_
      clear H10
      obtain ⟨p0, p1, p2, p3, p4, p5, p6, p7, p8, p9, p10⟩ := id PB3
      go_wp2_with fail
      refine (readRef_any [102, 97, 108, 115, 101] w4 (by decide) (hT.below hb3)).mono ?_
      rw [show vRes (rdR [102, 97, 108, 115, 101]) = .tuple #[.agg #[.int .i64 2, .int .i64 0, .string ⟨#[]⟩], .int .i64 0] by rfl]
      rintro e w5 ⟨rfl, hb5⟩
      have PB5 := PB3.keep hb5
      have XB5 := XB3.keep hb5
      have hb6 := chain hb3 hb5
      clear p0 p1 p2 p3 p4 p5 p6 p7 p8 p9 p10 PB3 XB3 hb3 hb5
      obtain ⟨p0, p1, p2, p3, p4, p5, p6, p7, p8, p9, p10⟩ := id PB5
      go_wp2_with fail
      have PB7 := ((PB5.set1 2).set2 0).set3 []
      have XB7 := ((XB5.far (p := ⟨X, 1, none⟩) hd2 (.int .i64 2)).far (p := ⟨X, 2, none⟩) hd2 (.int .i64 0)).far (p := ⟨X, 3, none⟩) hd2 (.string ⟨#[]⟩)
      have hb7 := ((hb6.setCell (p := ⟨X, 1, none⟩) (by show w.heap.size ≤ X; omega) (.int .i64 2)).setCell (p := ⟨X, 2, none⟩) (by show w.heap.size ≤ X; omega) (.int .i64 0)).setCell (p := ⟨X, 3, none⟩) (by show w.heap.size ≤ X; omega) (.string ⟨#[]⟩)
      change PcBox (((w5.setCell ⟨X, 1, none⟩ (.int .i64 2)).setCell ⟨X, 2, none⟩ (.int .i64 0)).setCell ⟨X, 3, none⟩ (.string ⟨#[]⟩)) _ _ at PB7
      generalize ((w5.setCell ⟨X, 1, none⟩ (.int .i64 2)).setCell ⟨X, 2, none⟩ (.int .i64 0)).setCell ⟨X, 3, none⟩ (.string ⟨#[]⟩) = w7 at PB7 XB7 hb7 ⊢
      clear p0 p1 p2 p3 p4 p5 p6 p7 p8 p9 p10 PB5 XB5 hb6
      refine H9.out _ _ ?_
      clear H9
      go_step
      rename_i K9 h9
      have H9 := Lib.hid h9
      clear h9
      obtain ⟨p0, p1, p2, p3, p4, p5, p6, p7, p8, p9, p10⟩ := id PB7
      obtain ⟨x0, x1, x2, x3, x4, x5, x6, x7, x8, x9, x10⟩ := id XB7
      go_wp2_with fail
      obtain ⟨WF, hW⟩ : ∃ wF, (((((((((w7.setCell ⟨w.heap.size, 0, none⟩ (.string ⟨([102, 97, 108, 115, 101] : Str).toArray⟩)).setCell ⟨w.heap.size, 1, none⟩ (.int .i64 2)).setCell ⟨w.heap.size, 2, none⟩ (.int .i64 0)).setCell ⟨w.heap.size, 3, none⟩ (.string ⟨#[]⟩)).setCell ⟨w.heap.size, 4, none⟩ (.bool true)).setCell ⟨w.heap.size, 5, none⟩ (.int .i64 (k : Int))).setCell ⟨w.heap.size, 6, none⟩ (.int .i64 (j : Int))).setCell ⟨w.heap.size, 7, none⟩ (.int .i64 0)).setCell ⟨w.heap.size, 8, none⟩ (.bool true)) = wF := ⟨_, rfl⟩
      rw [hW]
      obtain ⟨hF, hbF⟩ := pc_finish (c := ⟨[102, 97, 108, 115, 101], 2, 0, [], true, k, j, 0, true⟩) (Nat.le_refl _) hb7 XB7 hW
      clear hW p0 p1 p2 p3 p4 p5 p6 p7 p8 p9 p10 x0 x1 x2 x3 x4 x5 x6 x7 x8 x9 x10
      obtain ⟨d0, d1, d2, d3, d4, d5, d6, d7, d8, d9, d10⟩ := hF
      refine H9.out _ _ ?_
      clear H9
      go_step
      (try simp only [Exit.inBlock, Exit.then])
      refine bodyPost_ret (v := pcV ⟨[102, 97, 108, 115, 101], 2, 0, [], true, k, j, 0, true⟩) ?_ ?_ ?_
      · simp [results, Tryz.results56, go_sem, d0, d1, d2, d3, d4, d5, d6, d7, d8, pcV]
      · rfl
      · exact ⟨rfl, hbF⟩

end Go.Proofs.YtpidjanngbaiiaaGreatDoor
