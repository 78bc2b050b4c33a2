/-
  The shape of a type's part: types.shaped and the reference's part answer 'shapeOk'.
-/
import Derived.Test.YtcacembpegoghaaDoorTyL
import Derived.Test.YtcacembpegoghaaDoorTyOpen
namespace Go.Proofs.YtcacembpegoghaaDoor
open Go.RowKit Go.Proofs

set_option maxRecDepth 100000
/-- Has a part just what its kind has? -/
def shapeN (k s : Int) (n : Str) (nl : Nat) (lok : Bool) (kids : Nat) : Bool :=
  if k = 1 then decide (s = 0) && n.isEmpty && decide (nl = 0) && decide (kids = 0)
  else if k = 2 ∨ k = 3 then decide (1 ≤ s) && decide (s ≤ 3) && n.isEmpty && decide (nl = 0) && decide (kids = 1)
  else if k = 4 ∨ k = 5 then decide (s = 0) && n.isEmpty && decide (nl = 0) && decide (kids = 2)
  else if k = 6 ∨ k = 7 then decide (s = 0) && n.isEmpty && lok && decide (kids = nl)
  else if k = 8 then decide (s = 0) && isVar n && decide (nl = 0) && decide (kids = 1)
  else if k = 9 then decide (s = 0) && isVar n && decide (nl = 0) && decide (kids = 0)
  else false
def shapeOk (k s : Int) (n : Str) (ls : List Str) (kids : Nat) : Bool := shapeN k s n ls.length (labelsOk ls) kids
theorem sum_zero {a b : Nat} (ha : a ≤ 9223372036854775807) (hb : b ≤ 9223372036854775807) : (wrap64 ((a : Int) + b) == 0) = (decide (a = 0) && decide (b = 0)) := by
  rw [Bool.eq_iff_iff]
  simp only [beq_iff_eq, Bool.and_eq_true, decide_eq_true_eq, wrap64]
  omega

set_option maxHeartbeats 4000000 in
theorem shaped_1 (s : Int) (n : Str) (ls : List Str) (kids : Nat) (lv : Value) (A' : Option Addr) (cap' : Nat) (w : World) (hn : n.length ≤ 9223372036854775807) (hl : ls.length ≤ 9223372036854775807) (hs : ∀ s ∈ ls, s.length ≤ 9223372036854775807) (hk : kids ≤ 9223372036854775807) (hv : IsStrs w lv ls) :
    Calls Tryd.prog 199 #[.agg #[.int .i64 1, .int .i64 s, .string ⟨n.toArray⟩, lv, .slice A' kids cap']] w fun e w' => e = .returned (.bool (shapeOk 1 s n ls kids)) ∧ Below w.heap.size w w' := by
  have HV := Lib.hid hv
  obtain ⟨A, cap, rfl, -, -⟩ := hv
  obtain ⟨ANS, hA⟩ : ∃ x, shapeOk 1 s n ls kids = x := ⟨_, rfl⟩
  rw [hA]
  have HS := Lib.hid hs; clear hs
  obtain ⟨L, hL⟩ : ∃ L, ls.length = L := ⟨_, rfl⟩
  have HL := Lib.hid hL
  obtain ⟨B, hB⟩ : ∃ x, labelsOk ls = x := ⟨_, rfl⟩
  have HB := Lib.hid hB
  unfold shapeOk at hA
  rw [hL, hB] at hA
  have HA := Lib.hid hA
  rw [hL] at hl HV ⊢; clear hL hA hB
  go_enter Tryd.func199, Tryd.ntmps199
  go_wp2_with fail
  all_goals
    go_ret
    refine ⟨ret_bool' ?_, by go_grown⟩
    rw [← HA.out]
    first | (simp [shapeN, *]; done) | (simp [shapeN, *]; omega) | (rw [Bool.eq_iff_iff]; simp [shapeN, *]; done) | (rw [Bool.eq_iff_iff]; simp [shapeN, *]; omega) | (rw [sum_zero hl hk]; simp [shapeN, *]; done)
set_option maxHeartbeats 4000000 in
theorem shaped_2 (s : Int) (n : Str) (ls : List Str) (kids : Nat) (lv : Value) (A' : Option Addr) (cap' : Nat) (w : World) (hn : n.length ≤ 9223372036854775807) (hl : ls.length ≤ 9223372036854775807) (hs : ∀ s ∈ ls, s.length ≤ 9223372036854775807) (hk : kids ≤ 9223372036854775807) (hv : IsStrs w lv ls) :
    Calls Tryd.prog 199 #[.agg #[.int .i64 2, .int .i64 s, .string ⟨n.toArray⟩, lv, .slice A' kids cap']] w fun e w' => e = .returned (.bool (shapeOk 2 s n ls kids)) ∧ Below w.heap.size w w' := by
  have HV := Lib.hid hv
  obtain ⟨A, cap, rfl, -, -⟩ := hv
  obtain ⟨ANS, hA⟩ : ∃ x, shapeOk 2 s n ls kids = x := ⟨_, rfl⟩
  rw [hA]
  have HS := Lib.hid hs; clear hs
  obtain ⟨L, hL⟩ : ∃ L, ls.length = L := ⟨_, rfl⟩
  have HL := Lib.hid hL
  obtain ⟨B, hB⟩ : ∃ x, labelsOk ls = x := ⟨_, rfl⟩
  have HB := Lib.hid hB
  unfold shapeOk at hA
  rw [hL, hB] at hA
  have HA := Lib.hid hA
  rw [hL] at hl HV ⊢; clear hL hA hB
  go_enter Tryd.func199, Tryd.ntmps199
  go_wp2_with fail
  all_goals
    go_ret
    refine ⟨ret_bool' ?_, by go_grown⟩
    rw [← HA.out]
    first | (simp [shapeN, *]; done) | (simp [shapeN, *]; omega) | (rw [Bool.eq_iff_iff]; simp [shapeN, *]; done) | (rw [Bool.eq_iff_iff]; simp [shapeN, *]; omega) | (rw [sum_zero hl hk]; simp [shapeN, *]; done)
set_option maxHeartbeats 4000000 in
theorem shaped_3 (s : Int) (n : Str) (ls : List Str) (kids : Nat) (lv : Value) (A' : Option Addr) (cap' : Nat) (w : World) (hn : n.length ≤ 9223372036854775807) (hl : ls.length ≤ 9223372036854775807) (hs : ∀ s ∈ ls, s.length ≤ 9223372036854775807) (hk : kids ≤ 9223372036854775807) (hv : IsStrs w lv ls) :
    Calls Tryd.prog 199 #[.agg #[.int .i64 3, .int .i64 s, .string ⟨n.toArray⟩, lv, .slice A' kids cap']] w fun e w' => e = .returned (.bool (shapeOk 3 s n ls kids)) ∧ Below w.heap.size w w' := by
  have HV := Lib.hid hv
  obtain ⟨A, cap, rfl, -, -⟩ := hv
  obtain ⟨ANS, hA⟩ : ∃ x, shapeOk 3 s n ls kids = x := ⟨_, rfl⟩
  rw [hA]
  have HS := Lib.hid hs; clear hs
  obtain ⟨L, hL⟩ : ∃ L, ls.length = L := ⟨_, rfl⟩
  have HL := Lib.hid hL
  obtain ⟨B, hB⟩ : ∃ x, labelsOk ls = x := ⟨_, rfl⟩
  have HB := Lib.hid hB
  unfold shapeOk at hA
  rw [hL, hB] at hA
  have HA := Lib.hid hA
  rw [hL] at hl HV ⊢; clear hL hA hB
  go_enter Tryd.func199, Tryd.ntmps199
  go_wp2_with fail
  all_goals
    go_ret
    refine ⟨ret_bool' ?_, by go_grown⟩
    rw [← HA.out]
    first | (simp [shapeN, *]; done) | (simp [shapeN, *]; omega) | (rw [Bool.eq_iff_iff]; simp [shapeN, *]; done) | (rw [Bool.eq_iff_iff]; simp [shapeN, *]; omega) | (rw [sum_zero hl hk]; simp [shapeN, *]; done)
set_option maxHeartbeats 4000000 in
theorem shaped_4 (s : Int) (n : Str) (ls : List Str) (kids : Nat) (lv : Value) (A' : Option Addr) (cap' : Nat) (w : World) (hn : n.length ≤ 9223372036854775807) (hl : ls.length ≤ 9223372036854775807) (hs : ∀ s ∈ ls, s.length ≤ 9223372036854775807) (hk : kids ≤ 9223372036854775807) (hv : IsStrs w lv ls) :
    Calls Tryd.prog 199 #[.agg #[.int .i64 4, .int .i64 s, .string ⟨n.toArray⟩, lv, .slice A' kids cap']] w fun e w' => e = .returned (.bool (shapeOk 4 s n ls kids)) ∧ Below w.heap.size w w' := by
  have HV := Lib.hid hv
  obtain ⟨A, cap, rfl, -, -⟩ := hv
  obtain ⟨ANS, hA⟩ : ∃ x, shapeOk 4 s n ls kids = x := ⟨_, rfl⟩
  rw [hA]
  have HS := Lib.hid hs; clear hs
  obtain ⟨L, hL⟩ : ∃ L, ls.length = L := ⟨_, rfl⟩
  have HL := Lib.hid hL
  obtain ⟨B, hB⟩ : ∃ x, labelsOk ls = x := ⟨_, rfl⟩
  have HB := Lib.hid hB
  unfold shapeOk at hA
  rw [hL, hB] at hA
  have HA := Lib.hid hA
  rw [hL] at hl HV ⊢; clear hL hA hB
  go_enter Tryd.func199, Tryd.ntmps199
  go_wp2_with fail
  all_goals
    go_ret
    refine ⟨ret_bool' ?_, by go_grown⟩
    rw [← HA.out]
    first | (simp [shapeN, *]; done) | (simp [shapeN, *]; omega) | (rw [Bool.eq_iff_iff]; simp [shapeN, *]; done) | (rw [Bool.eq_iff_iff]; simp [shapeN, *]; omega) | (rw [sum_zero hl hk]; simp [shapeN, *]; done)
set_option maxHeartbeats 4000000 in
theorem shaped_5 (s : Int) (n : Str) (ls : List Str) (kids : Nat) (lv : Value) (A' : Option Addr) (cap' : Nat) (w : World) (hn : n.length ≤ 9223372036854775807) (hl : ls.length ≤ 9223372036854775807) (hs : ∀ s ∈ ls, s.length ≤ 9223372036854775807) (hk : kids ≤ 9223372036854775807) (hv : IsStrs w lv ls) :
    Calls Tryd.prog 199 #[.agg #[.int .i64 5, .int .i64 s, .string ⟨n.toArray⟩, lv, .slice A' kids cap']] w fun e w' => e = .returned (.bool (shapeOk 5 s n ls kids)) ∧ Below w.heap.size w w' := by
  have HV := Lib.hid hv
  obtain ⟨A, cap, rfl, -, -⟩ := hv
  obtain ⟨ANS, hA⟩ : ∃ x, shapeOk 5 s n ls kids = x := ⟨_, rfl⟩
  rw [hA]
  have HS := Lib.hid hs; clear hs
  obtain ⟨L, hL⟩ : ∃ L, ls.length = L := ⟨_, rfl⟩
  have HL := Lib.hid hL
  obtain ⟨B, hB⟩ : ∃ x, labelsOk ls = x := ⟨_, rfl⟩
  have HB := Lib.hid hB
  unfold shapeOk at hA
  rw [hL, hB] at hA
  have HA := Lib.hid hA
  rw [hL] at hl HV ⊢; clear hL hA hB
  go_enter Tryd.func199, Tryd.ntmps199
  go_wp2_with fail
  all_goals
    go_ret
    refine ⟨ret_bool' ?_, by go_grown⟩
    rw [← HA.out]
    first | (simp [shapeN, *]; done) | (simp [shapeN, *]; omega) | (rw [Bool.eq_iff_iff]; simp [shapeN, *]; done) | (rw [Bool.eq_iff_iff]; simp [shapeN, *]; omega) | (rw [sum_zero hl hk]; simp [shapeN, *]; done)
set_option maxHeartbeats 4000000 in
theorem shaped_6 (s : Int) (n : Str) (ls : List Str) (kids : Nat) (lv : Value) (A' : Option Addr) (cap' : Nat) (w : World) (hn : n.length ≤ 9223372036854775807) (hl : ls.length ≤ 9223372036854775807) (hs : ∀ s ∈ ls, s.length ≤ 9223372036854775807) (hk : kids ≤ 9223372036854775807) (hv : IsStrs w lv ls) :
    Calls Tryd.prog 199 #[.agg #[.int .i64 6, .int .i64 s, .string ⟨n.toArray⟩, lv, .slice A' kids cap']] w fun e w' => e = .returned (.bool (shapeOk 6 s n ls kids)) ∧ Below w.heap.size w w' := by
  have HV := Lib.hid hv
  obtain ⟨A, cap, rfl, -, -⟩ := hv
  obtain ⟨ANS, hA⟩ : ∃ x, shapeOk 6 s n ls kids = x := ⟨_, rfl⟩
  rw [hA]
  have HS := Lib.hid hs; clear hs
  obtain ⟨L, hL⟩ : ∃ L, ls.length = L := ⟨_, rfl⟩
  have HL := Lib.hid hL
  obtain ⟨B, hB⟩ : ∃ x, labelsOk ls = x := ⟨_, rfl⟩
  have HB := Lib.hid hB
  unfold shapeOk at hA
  rw [hL, hB] at hA
  have HA := Lib.hid hA
  rw [hL] at hl HV ⊢; clear hL hA hB
  cases B
  all_goals
    go_enter Tryd.func199, Tryd.ntmps199
    go_wp2_with (go_at_call 256; go_must (refine (labels_any _ ls _ (HV.out.keep (by go_grown)) HS.out (by rw [HL.out]; exact hl)).mono ?_; rw [HB.out]; rintro e w1 ⟨rfl, hb1⟩; obtain ⟨hc1, hf1, hz1⟩ := bcell hb1))
    all_goals
      go_ret
      refine ⟨ret_bool' ?_, by first | (exact chain (by go_grown) hb1) | go_grown⟩
      rw [← HA.out]
      first | (simp [shapeN, *]; done) | (simp [shapeN, *]; omega) | (rw [Bool.eq_iff_iff]; simp [shapeN, *]; done) | (rw [Bool.eq_iff_iff]; simp [shapeN, *]; omega) | (rw [sum_zero hl hk]; simp [shapeN, *]; done)
set_option maxHeartbeats 4000000 in
theorem shaped_7 (s : Int) (n : Str) (ls : List Str) (kids : Nat) (lv : Value) (A' : Option Addr) (cap' : Nat) (w : World) (hn : n.length ≤ 9223372036854775807) (hl : ls.length ≤ 9223372036854775807) (hs : ∀ s ∈ ls, s.length ≤ 9223372036854775807) (hk : kids ≤ 9223372036854775807) (hv : IsStrs w lv ls) :
    Calls Tryd.prog 199 #[.agg #[.int .i64 7, .int .i64 s, .string ⟨n.toArray⟩, lv, .slice A' kids cap']] w fun e w' => e = .returned (.bool (shapeOk 7 s n ls kids)) ∧ Below w.heap.size w w' := by
  have HV := Lib.hid hv
  obtain ⟨A, cap, rfl, -, -⟩ := hv
  obtain ⟨ANS, hA⟩ : ∃ x, shapeOk 7 s n ls kids = x := ⟨_, rfl⟩
  rw [hA]
  have HS := Lib.hid hs; clear hs
  obtain ⟨L, hL⟩ : ∃ L, ls.length = L := ⟨_, rfl⟩
  have HL := Lib.hid hL
  obtain ⟨B, hB⟩ : ∃ x, labelsOk ls = x := ⟨_, rfl⟩
  have HB := Lib.hid hB
  unfold shapeOk at hA
  rw [hL, hB] at hA
  have HA := Lib.hid hA
  rw [hL] at hl HV ⊢; clear hL hA hB
  cases B
  all_goals
    go_enter Tryd.func199, Tryd.ntmps199
    go_wp2_with (go_at_call 256; go_must (refine (labels_any _ ls _ (HV.out.keep (by go_grown)) HS.out (by rw [HL.out]; exact hl)).mono ?_; rw [HB.out]; rintro e w1 ⟨rfl, hb1⟩; obtain ⟨hc1, hf1, hz1⟩ := bcell hb1))
    all_goals
      go_ret
      refine ⟨ret_bool' ?_, by first | (exact chain (by go_grown) hb1) | go_grown⟩
      rw [← HA.out]
      first | (simp [shapeN, *]; done) | (simp [shapeN, *]; omega) | (rw [Bool.eq_iff_iff]; simp [shapeN, *]; done) | (rw [Bool.eq_iff_iff]; simp [shapeN, *]; omega) | (rw [sum_zero hl hk]; simp [shapeN, *]; done)
set_option maxHeartbeats 4000000 in
theorem shaped_8 (s : Int) (n : Str) (ls : List Str) (kids : Nat) (lv : Value) (A' : Option Addr) (cap' : Nat) (w : World) (hn : n.length ≤ 9223372036854775807) (hl : ls.length ≤ 9223372036854775807) (hs : ∀ s ∈ ls, s.length ≤ 9223372036854775807) (hk : kids ≤ 9223372036854775807) (hv : IsStrs w lv ls) :
    Calls Tryd.prog 199 #[.agg #[.int .i64 8, .int .i64 s, .string ⟨n.toArray⟩, lv, .slice A' kids cap']] w fun e w' => e = .returned (.bool (shapeOk 8 s n ls kids)) ∧ Below w.heap.size w w' := by
  have HV := Lib.hid hv
  obtain ⟨A, cap, rfl, -, -⟩ := hv
  obtain ⟨ANS, hA⟩ : ∃ x, shapeOk 8 s n ls kids = x := ⟨_, rfl⟩
  rw [hA]
  have HS := Lib.hid hs; clear hs
  obtain ⟨L, hL⟩ : ∃ L, ls.length = L := ⟨_, rfl⟩
  have HL := Lib.hid hL
  obtain ⟨B, hB⟩ : ∃ x, labelsOk ls = x := ⟨_, rfl⟩
  have HB := Lib.hid hB
  unfold shapeOk at hA
  rw [hL, hB] at hA
  have HA := Lib.hid hA
  rw [hL] at hl HV ⊢; clear hL hA hB
  obtain ⟨C, hC⟩ : ∃ x, isVar n = x := ⟨_, rfl⟩
  have HC := Lib.hid hC; clear hC
  cases C
  all_goals
    go_enter Tryd.func199, Tryd.ntmps199
    go_wp2_with (go_at_call 33; go_must (refine (isVar_any n _ hn).mono ?_; rw [HC.out]; rintro e w1 ⟨rfl, hb1⟩; obtain ⟨hc1, hf1, hz1⟩ := bcell hb1))
    all_goals
      go_ret
      refine ⟨ret_bool' ?_, by first | (exact chain (by go_grown) hb1) | go_grown⟩
      rw [← HA.out]
      have hC := HC.out
      first | (simp [shapeN, *]; done) | (simp [shapeN, *]; omega) | (rw [Bool.eq_iff_iff]; simp [shapeN, *]; done) | (rw [Bool.eq_iff_iff]; simp [shapeN, *]; omega) | (rw [sum_zero hl hk]; simp [shapeN, *]; done)
set_option maxHeartbeats 4000000 in
theorem shaped_9 (s : Int) (n : Str) (ls : List Str) (kids : Nat) (lv : Value) (A' : Option Addr) (cap' : Nat) (w : World) (hn : n.length ≤ 9223372036854775807) (hl : ls.length ≤ 9223372036854775807) (hs : ∀ s ∈ ls, s.length ≤ 9223372036854775807) (hk : kids ≤ 9223372036854775807) (hv : IsStrs w lv ls) :
    Calls Tryd.prog 199 #[.agg #[.int .i64 9, .int .i64 s, .string ⟨n.toArray⟩, lv, .slice A' kids cap']] w fun e w' => e = .returned (.bool (shapeOk 9 s n ls kids)) ∧ Below w.heap.size w w' := by
  have HV := Lib.hid hv
  obtain ⟨A, cap, rfl, -, -⟩ := hv
  obtain ⟨ANS, hA⟩ : ∃ x, shapeOk 9 s n ls kids = x := ⟨_, rfl⟩
  rw [hA]
  have HS := Lib.hid hs; clear hs
  obtain ⟨L, hL⟩ : ∃ L, ls.length = L := ⟨_, rfl⟩
  have HL := Lib.hid hL
  obtain ⟨B, hB⟩ : ∃ x, labelsOk ls = x := ⟨_, rfl⟩
  have HB := Lib.hid hB
  unfold shapeOk at hA
  rw [hL, hB] at hA
  have HA := Lib.hid hA
  rw [hL] at hl HV ⊢; clear hL hA hB
  obtain ⟨C, hC⟩ : ∃ x, isVar n = x := ⟨_, rfl⟩
  have HC := Lib.hid hC; clear hC
  cases C
  all_goals
    go_enter Tryd.func199, Tryd.ntmps199
    go_wp2_with (go_at_call 33; go_must (refine (isVar_any n _ hn).mono ?_; rw [HC.out]; rintro e w1 ⟨rfl, hb1⟩; obtain ⟨hc1, hf1, hz1⟩ := bcell hb1))
    all_goals
      go_ret
      refine ⟨ret_bool' ?_, by first | (exact chain (by go_grown) hb1) | go_grown⟩
      rw [← HA.out]
      have hC := HC.out
      first | (simp [shapeN, *]; done) | (simp [shapeN, *]; omega) | (rw [Bool.eq_iff_iff]; simp [shapeN, *]; done) | (rw [Bool.eq_iff_iff]; simp [shapeN, *]; omega) | (rw [sum_zero hl hk]; simp [shapeN, *]; done)
set_option maxHeartbeats 4000000 in
theorem shaped_o (k : Int) (h1 : k ≠ 1) (h2 : k ≠ 2) (h3 : k ≠ 3) (h4 : k ≠ 4) (h5 : k ≠ 5) (h6 : k ≠ 6) (h7 : k ≠ 7) (h8 : k ≠ 8) (h9 : k ≠ 9) (s : Int) (n : Str) (ls : List Str) (kids : Nat) (lv : Value) (A' : Option Addr) (cap' : Nat) (w : World) (hn : n.length ≤ 9223372036854775807) (hl : ls.length ≤ 9223372036854775807) (hs : ∀ s ∈ ls, s.length ≤ 9223372036854775807) (hk : kids ≤ 9223372036854775807) (hv : IsStrs w lv ls) :
    Calls Tryd.prog 199 #[.agg #[.int .i64 k, .int .i64 s, .string ⟨n.toArray⟩, lv, .slice A' kids cap']] w fun e w' => e = .returned (.bool (shapeOk k s n ls kids)) ∧ Below w.heap.size w w' := by
  have HV := Lib.hid hv
  obtain ⟨A, cap, rfl, -, -⟩ := hv
  obtain ⟨ANS, hA⟩ : ∃ x, shapeOk k s n ls kids = x := ⟨_, rfl⟩
  rw [hA]
  have HS := Lib.hid hs; clear hs
  obtain ⟨L, hL⟩ : ∃ L, ls.length = L := ⟨_, rfl⟩
  have HL := Lib.hid hL
  obtain ⟨B, hB⟩ : ∃ x, labelsOk ls = x := ⟨_, rfl⟩
  have HB := Lib.hid hB
  unfold shapeOk at hA
  rw [hL, hB] at hA
  have HA := Lib.hid hA
  rw [hL] at hl HV ⊢; clear hL hA hB
  go_enter Tryd.func199, Tryd.ntmps199
  go_wp2_with fail
  all_goals
    go_ret
    refine ⟨ret_bool' ?_, by go_grown⟩
    rw [← HA.out]
    first | (simp [shapeN, *]; done) | (simp [shapeN, *]; omega) | (rw [Bool.eq_iff_iff]; simp [shapeN, *]; done) | (rw [Bool.eq_iff_iff]; simp [shapeN, *]; omega) | (rw [sum_zero hl hk]; simp [shapeN, *]; done)
end Go.Proofs.YtcacembpegoghaaDoor
