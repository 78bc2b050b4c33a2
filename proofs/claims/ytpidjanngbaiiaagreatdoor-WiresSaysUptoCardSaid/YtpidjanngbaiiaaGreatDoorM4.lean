/-
  The reference's part, kind by kind.
  What is wrong with a type, in plain words: the program's walk with a budget (chk), the reference's stack (chkList): they agree.
  The plain law of types: good types, their size and text, what is put in the place of a name, heads.
  The plain law of types, second part: how many parts, how long a text; the text of a choice, pair by pair.
  Rows of types that a call makes itself: what the cells of a row say, one behind the other; append of rows.
  Types in memory, with the blocks in which they lie (D): what is kept while these blocks are kept.
  The reference's list of what is still to be looked at: types, each with the names around it.
-/
import Derived.Test.YtpidjanngbaiiaaGreatDoorM3
import Derived.Laws.AppendOwnNone
namespace Go.Proofs.YtpidjanngbaiiaaGreatDoor
open Go.RowKit Go.Proofs
set_option maxRecDepth 100000

set_option maxHeartbeats 4000000 in
theorem part_1 (s : Int) (n : Str) (ls : List Str) (kids : Nat) (lv : Value) (A' : Option Addr) (cap' : Nat) (w : World) (hn : n.length ≤ 9223372036854775807) (hl : ls.length ≤ 9223372036854775807) (hs : ∀ s ∈ ls, s.length ≤ 9223372036854775807) (hk : kids ≤ 9223372036854775807) (hv : IsStrs w lv ls) :
  Calls Tryz.prog 65 #[.agg #[.int .i64 1, .int .i64 s, .string ⟨n.toArray⟩, lv, .slice A' kids cap']] w fun e w' => e = .returned (.bool (shapeOk 1 s n ls kids)) ∧ Below w.heap.size w w' := by
 have HV := Lib.hid hv
 obtain ⟨A, cap, rfl, -, -⟩ := hv
 obtain ⟨ANS, hA⟩ : ∃ x, shapeOk 1 s n ls kids = x := ⟨_, rfl⟩
 rw [hA]
 have HS := Lib.hid hs; clear hs
 obtain ⟨L, hL⟩ : ∃ L, ls.length = L := ⟨_, rfl⟩
 have HL := Lib.hid hL
 obtain ⟨B, hB⟩ : ∃ x, labelsOk ls = x := ⟨_, rfl⟩
 have HB := Lib.hid hB
 unfold shapeOk at hA
 rw [hL, hB] at hA
 have HA := Lib.hid hA
 rw [hL] at hl HV ⊢; clear hL hA hB
 go_enter Tryz.func65, Tryz.ntmps65
 go_wp2_with fail
 all_goals
  go_ret
  refine ⟨ret_bool' ?_, by go_grown⟩
  rw [← HA.out]
  first | (simp [shapeN, *]; done) | (simp [shapeN, *]; omega) | (rw [Bool.eq_iff_iff]; simp [shapeN, *]; done) | (rw [Bool.eq_iff_iff]; simp [shapeN, *]; omega) | (rw [sum_zero hl hk]; simp [shapeN, *]; done)
set_option maxHeartbeats 4000000 in
theorem part_2 (s : Int) (n : Str) (ls : List Str) (kids : Nat) (lv : Value) (A' : Option Addr) (cap' : Nat) (w : World) (hn : n.length ≤ 9223372036854775807) (hl : ls.length ≤ 9223372036854775807) (hs : ∀ s ∈ ls, s.length ≤ 9223372036854775807) (hk : kids ≤ 9223372036854775807) (hv : IsStrs w lv ls) :
  Calls Tryz.prog 65 #[.agg #[.int .i64 2, .int .i64 s, .string ⟨n.toArray⟩, lv, .slice A' kids cap']] w fun e w' => e = .returned (.bool (shapeOk 2 s n ls kids)) ∧ Below w.heap.size w w' := by
 have HV := Lib.hid hv
 obtain ⟨A, cap, rfl, -, -⟩ := hv
 obtain ⟨ANS, hA⟩ : ∃ x, shapeOk 2 s n ls kids = x := ⟨_, rfl⟩
 rw [hA]
 have HS := Lib.hid hs; clear hs
 obtain ⟨L, hL⟩ : ∃ L, ls.length = L := ⟨_, rfl⟩
 have HL := Lib.hid hL
 obtain ⟨B, hB⟩ : ∃ x, labelsOk ls = x := ⟨_, rfl⟩
 have HB := Lib.hid hB
 unfold shapeOk at hA
 rw [hL, hB] at hA
 have HA := Lib.hid hA
 rw [hL] at hl HV ⊢; clear hL hA hB
 go_enter Tryz.func65, Tryz.ntmps65
 go_wp2_with fail
 all_goals
  go_ret
  refine ⟨ret_bool' ?_, by go_grown⟩
  rw [← HA.out]
  first | (simp [shapeN, *]; done) | (simp [shapeN, *]; omega) | (rw [Bool.eq_iff_iff]; simp [shapeN, *]; done) | (rw [Bool.eq_iff_iff]; simp [shapeN, *]; omega) | (rw [sum_zero hl hk]; simp [shapeN, *]; done)
set_option maxHeartbeats 4000000 in
theorem part_3 (s : Int) (n : Str) (ls : List Str) (kids : Nat) (lv : Value) (A' : Option Addr) (cap' : Nat) (w : World) (hn : n.length ≤ 9223372036854775807) (hl : ls.length ≤ 9223372036854775807) (hs : ∀ s ∈ ls, s.length ≤ 9223372036854775807) (hk : kids ≤ 9223372036854775807) (hv : IsStrs w lv ls) :
  Calls Tryz.prog 65 #[.agg #[.int .i64 3, .int .i64 s, .string ⟨n.toArray⟩, lv, .slice A' kids cap']] w fun e w' => e = .returned (.bool (shapeOk 3 s n ls kids)) ∧ Below w.heap.size w w' := by
 have HV := Lib.hid hv
 obtain ⟨A, cap, rfl, -, -⟩ := hv
 obtain ⟨ANS, hA⟩ : ∃ x, shapeOk 3 s n ls kids = x := ⟨_, rfl⟩
 rw [hA]
 have HS := Lib.hid hs; clear hs
 obtain ⟨L, hL⟩ : ∃ L, ls.length = L := ⟨_, rfl⟩
 have HL := Lib.hid hL
 obtain ⟨B, hB⟩ : ∃ x, labelsOk ls = x := ⟨_, rfl⟩
 have HB := Lib.hid hB
 unfold shapeOk at hA
 rw [hL, hB] at hA
 have HA := Lib.hid hA
 rw [hL] at hl HV ⊢; clear hL hA hB
 go_enter Tryz.func65, Tryz.ntmps65
 go_wp2_with fail
 all_goals
  go_ret
  refine ⟨ret_bool' ?_, by go_grown⟩
  rw [← HA.out]
  first | (simp [shapeN, *]; done) | (simp [shapeN, *]; omega) | (rw [Bool.eq_iff_iff]; simp [shapeN, *]; done) | (rw [Bool.eq_iff_iff]; simp [shapeN, *]; omega) | (rw [sum_zero hl hk]; simp [shapeN, *]; done)
set_option maxHeartbeats 4000000 in
theorem part_4 (s : Int) (n : Str) (ls : List Str) (kids : Nat) (lv : Value) (A' : Option Addr) (cap' : Nat) (w : World) (hn : n.length ≤ 9223372036854775807) (hl : ls.length ≤ 9223372036854775807) (hs : ∀ s ∈ ls, s.length ≤ 9223372036854775807) (hk : kids ≤ 9223372036854775807) (hv : IsStrs w lv ls) :
  Calls Tryz.prog 65 #[.agg #[.int .i64 4, .int .i64 s, .string ⟨n.toArray⟩, lv, .slice A' kids cap']] w fun e w' => e = .returned (.bool (shapeOk 4 s n ls kids)) ∧ Below w.heap.size w w' := by
 have HV := Lib.hid hv
 obtain ⟨A, cap, rfl, -, -⟩ := hv
 obtain ⟨ANS, hA⟩ : ∃ x, shapeOk 4 s n ls kids = x := ⟨_, rfl⟩
 rw [hA]
 have HS := Lib.hid hs; clear hs
 obtain ⟨L, hL⟩ : ∃ L, ls.length = L := ⟨_, rfl⟩
 have HL := Lib.hid hL
 obtain ⟨B, hB⟩ : ∃ x, labelsOk ls = x := ⟨_, rfl⟩
 have HB := Lib.hid hB
 unfold shapeOk at hA
 rw [hL, hB] at hA
 have HA := Lib.hid hA
 rw [hL] at hl HV ⊢; clear hL hA hB
 go_enter Tryz.func65, Tryz.ntmps65
 go_wp2_with fail
 all_goals
  go_ret
  refine ⟨ret_bool' ?_, by go_grown⟩
  rw [← HA.out]
  first | (simp [shapeN, *]; done) | (simp [shapeN, *]; omega) | (rw [Bool.eq_iff_iff]; simp [shapeN, *]; done) | (rw [Bool.eq_iff_iff]; simp [shapeN, *]; omega) | (rw [sum_zero hl hk]; simp [shapeN, *]; done)
set_option maxHeartbeats 4000000 in
theorem part_5 (s : Int) (n : Str) (ls : List Str) (kids : Nat) (lv : Value) (A' : Option Addr) (cap' : Nat) (w : World) (hn : n.length ≤ 9223372036854775807) (hl : ls.length ≤ 9223372036854775807) (hs : ∀ s ∈ ls, s.length ≤ 9223372036854775807) (hk : kids ≤ 9223372036854775807) (hv : IsStrs w lv ls) :
  Calls Tryz.prog 65 #[.agg #[.int .i64 5, .int .i64 s, .string ⟨n.toArray⟩, lv, .slice A' kids cap']] w fun e w' => e = .returned (.bool (shapeOk 5 s n ls kids)) ∧ Below w.heap.size w w' := by
 have HV := Lib.hid hv
 obtain ⟨A, cap, rfl, -, -⟩ := hv
 obtain ⟨ANS, hA⟩ : ∃ x, shapeOk 5 s n ls kids = x := ⟨_, rfl⟩
 rw [hA]
 have HS := Lib.hid hs; clear hs
 obtain ⟨L, hL⟩ : ∃ L, ls.length = L := ⟨_, rfl⟩
 have HL := Lib.hid hL
 obtain ⟨B, hB⟩ : ∃ x, labelsOk ls = x := ⟨_, rfl⟩
 have HB := Lib.hid hB
 unfold shapeOk at hA
 rw [hL, hB] at hA
 have HA := Lib.hid hA
 rw [hL] at hl HV ⊢; clear hL hA hB
 go_enter Tryz.func65, Tryz.ntmps65
 go_wp2_with fail
 all_goals
  go_ret
  refine ⟨ret_bool' ?_, by go_grown⟩
  rw [← HA.out]
  first | (simp [shapeN, *]; done) | (simp [shapeN, *]; omega) | (rw [Bool.eq_iff_iff]; simp [shapeN, *]; done) | (rw [Bool.eq_iff_iff]; simp [shapeN, *]; omega) | (rw [sum_zero hl hk]; simp [shapeN, *]; done)
set_option maxHeartbeats 4000000 in
theorem part_6 (s : Int) (n : Str) (ls : List Str) (kids : Nat) (lv : Value) (A' : Option Addr) (cap' : Nat) (w : World) (hn : n.length ≤ 9223372036854775807) (hl : ls.length ≤ 9223372036854775807) (hs : ∀ s ∈ ls, s.length ≤ 9223372036854775807) (hk : kids ≤ 9223372036854775807) (hv : IsStrs w lv ls) :
  Calls Tryz.prog 65 #[.agg #[.int .i64 6, .int .i64 s, .string ⟨n.toArray⟩, lv, .slice A' kids cap']] w fun e w' => e = .returned (.bool (shapeOk 6 s n ls kids)) ∧ Below w.heap.size w w' := by
 have HV := Lib.hid hv
 obtain ⟨A, cap, rfl, -, -⟩ := hv
 obtain ⟨ANS, hA⟩ : ∃ x, shapeOk 6 s n ls kids = x := ⟨_, rfl⟩
 rw [hA]
 have HS := Lib.hid hs; clear hs
 obtain ⟨L, hL⟩ : ∃ L, ls.length = L := ⟨_, rfl⟩
 have HL := Lib.hid hL
 obtain ⟨B, hB⟩ : ∃ x, labelsOk ls = x := ⟨_, rfl⟩
 have HB := Lib.hid hB
 unfold shapeOk at hA
 rw [hL, hB] at hA
 have HA := Lib.hid hA
 rw [hL] at hl HV ⊢; clear hL hA hB
 cases B
 all_goals
  go_enter Tryz.func65, Tryz.ntmps65
  go_wp2_with (go_at_call 76; go_must (refine (refLabels_any _ ls _ (HV.out.keep (by go_grown)) HS.out (by rw [HL.out]; exact hl)).mono ?_; rw [HB.out]; rintro e w1 ⟨rfl, hb1⟩; obtain ⟨hc1, hf1, hz1⟩ := bcell hb1))
  all_goals
   go_ret
   refine ⟨ret_bool' ?_, by first | (exact chain (by go_grown) hb1) | go_grown⟩
   rw [← HA.out]
   first | (simp [shapeN, *]; done) | (simp [shapeN, *]; omega) | (rw [Bool.eq_iff_iff]; simp [shapeN, *]; done) | (rw [Bool.eq_iff_iff]; simp [shapeN, *]; omega) | (rw [sum_zero hl hk]; simp [shapeN, *]; done)
set_option maxHeartbeats 4000000 in
theorem part_7 (s : Int) (n : Str) (ls : List Str) (kids : Nat) (lv : Value) (A' : Option Addr) (cap' : Nat) (w : World) (hn : n.length ≤ 9223372036854775807) (hl : ls.length ≤ 9223372036854775807) (hs : ∀ s ∈ ls, s.length ≤ 9223372036854775807) (hk : kids ≤ 9223372036854775807) (hv : IsStrs w lv ls) :
  Calls Tryz.prog 65 #[.agg #[.int .i64 7, .int .i64 s, .string ⟨n.toArray⟩, lv, .slice A' kids cap']] w fun e w' => e = .returned (.bool (shapeOk 7 s n ls kids)) ∧ Below w.heap.size w w' := by
 have HV := Lib.hid hv
 obtain ⟨A, cap, rfl, -, -⟩ := hv
 obtain ⟨ANS, hA⟩ : ∃ x, shapeOk 7 s n ls kids = x := ⟨_, rfl⟩
 rw [hA]
 have HS := Lib.hid hs; clear hs
 obtain ⟨L, hL⟩ : ∃ L, ls.length = L := ⟨_, rfl⟩
 have HL := Lib.hid hL
 obtain ⟨B, hB⟩ : ∃ x, labelsOk ls = x := ⟨_, rfl⟩
 have HB := Lib.hid hB
 unfold shapeOk at hA
 rw [hL, hB] at hA
 have HA := Lib.hid hA
 rw [hL] at hl HV ⊢; clear hL hA hB
 cases B
 all_goals
  go_enter Tryz.func65, Tryz.ntmps65
  go_wp2_with (go_at_call 76; go_must (refine (refLabels_any _ ls _ (HV.out.keep (by go_grown)) HS.out (by rw [HL.out]; exact hl)).mono ?_; rw [HB.out]; rintro e w1 ⟨rfl, hb1⟩; obtain ⟨hc1, hf1, hz1⟩ := bcell hb1))
  all_goals
   go_ret
   refine ⟨ret_bool' ?_, by first | (exact chain (by go_grown) hb1) | go_grown⟩
   rw [← HA.out]
   first | (simp [shapeN, *]; done) | (simp [shapeN, *]; omega) | (rw [Bool.eq_iff_iff]; simp [shapeN, *]; done) | (rw [Bool.eq_iff_iff]; simp [shapeN, *]; omega) | (rw [sum_zero hl hk]; simp [shapeN, *]; done)
set_option maxHeartbeats 4000000 in
theorem part_8 (s : Int) (n : Str) (ls : List Str) (kids : Nat) (lv : Value) (A' : Option Addr) (cap' : Nat) (w : World) (hn : n.length ≤ 9223372036854775807) (hl : ls.length ≤ 9223372036854775807) (hs : ∀ s ∈ ls, s.length ≤ 9223372036854775807) (hk : kids ≤ 9223372036854775807) (hv : IsStrs w lv ls) :
  Calls Tryz.prog 65 #[.agg #[.int .i64 8, .int .i64 s, .string ⟨n.toArray⟩, lv, .slice A' kids cap']] w fun e w' => e = .returned (.bool (shapeOk 8 s n ls kids)) ∧ Below w.heap.size w w' := by
 have HV := Lib.hid hv
 obtain ⟨A, cap, rfl, -, -⟩ := hv
 obtain ⟨ANS, hA⟩ : ∃ x, shapeOk 8 s n ls kids = x := ⟨_, rfl⟩
 rw [hA]
 have HS := Lib.hid hs; clear hs
 obtain ⟨L, hL⟩ : ∃ L, ls.length = L := ⟨_, rfl⟩
 have HL := Lib.hid hL
 obtain ⟨B, hB⟩ : ∃ x, labelsOk ls = x := ⟨_, rfl⟩
 have HB := Lib.hid hB
 unfold shapeOk at hA
 rw [hL, hB] at hA
 have HA := Lib.hid hA
 rw [hL] at hl HV ⊢; clear hL hA hB
 obtain ⟨C, hC⟩ : ∃ x, isVar n = x := ⟨_, rfl⟩
 have HC := Lib.hid hC; clear hC
 cases C
 all_goals
  go_enter Tryz.func65, Tryz.ntmps65
  go_wp2_with (go_at_call 102; go_must (refine (refIsVar_any n _ hn).mono ?_; rw [HC.out]; rintro e w1 ⟨rfl, hb1⟩; obtain ⟨hc1, hf1, hz1⟩ := bcell hb1))
  all_goals
   go_ret
   refine ⟨ret_bool' ?_, by first | (exact chain (by go_grown) hb1) | go_grown⟩
   rw [← HA.out]
   have hC := HC.out
   first | (simp [shapeN, *]; done) | (simp [shapeN, *]; omega) | (rw [Bool.eq_iff_iff]; simp [shapeN, *]; done) | (rw [Bool.eq_iff_iff]; simp [shapeN, *]; omega) | (rw [sum_zero hl hk]; simp [shapeN, *]; done)
set_option maxHeartbeats 4000000 in
theorem part_9 (s : Int) (n : Str) (ls : List Str) (kids : Nat) (lv : Value) (A' : Option Addr) (cap' : Nat) (w : World) (hn : n.length ≤ 9223372036854775807) (hl : ls.length ≤ 9223372036854775807) (hs : ∀ s ∈ ls, s.length ≤ 9223372036854775807) (hk : kids ≤ 9223372036854775807) (hv : IsStrs w lv ls) :
  Calls Tryz.prog 65 #[.agg #[.int .i64 9, .int .i64 s, .string ⟨n.toArray⟩, lv, .slice A' kids cap']] w fun e w' => e = .returned (.bool (shapeOk 9 s n ls kids)) ∧ Below w.heap.size w w' := by
 have HV := Lib.hid hv
 obtain ⟨A, cap, rfl, -, -⟩ := hv
 obtain ⟨ANS, hA⟩ : ∃ x, shapeOk 9 s n ls kids = x := ⟨_, rfl⟩
 rw [hA]
 have HS := Lib.hid hs; clear hs
 obtain ⟨L, hL⟩ : ∃ L, ls.length = L := ⟨_, rfl⟩
 have HL := Lib.hid hL
 obtain ⟨B, hB⟩ : ∃ x, labelsOk ls = x := ⟨_, rfl⟩
 have HB := Lib.hid hB
 unfold shapeOk at hA
 rw [hL, hB] at hA
 have HA := Lib.hid hA
 rw [hL] at hl HV ⊢; clear hL hA hB
 obtain ⟨C, hC⟩ : ∃ x, isVar n = x := ⟨_, rfl⟩
 have HC := Lib.hid hC; clear hC
 cases C
 all_goals
  go_enter Tryz.func65, Tryz.ntmps65
  go_wp2_with (go_at_call 102; go_must (refine (refIsVar_any n _ hn).mono ?_; rw [HC.out]; rintro e w1 ⟨rfl, hb1⟩; obtain ⟨hc1, hf1, hz1⟩ := bcell hb1))
  all_goals
   go_ret
   refine ⟨ret_bool' ?_, by first | (exact chain (by go_grown) hb1) | go_grown⟩
   rw [← HA.out]
   have hC := HC.out
   first | (simp [shapeN, *]; done) | (simp [shapeN, *]; omega) | (rw [Bool.eq_iff_iff]; simp [shapeN, *]; done) | (rw [Bool.eq_iff_iff]; simp [shapeN, *]; omega) | (rw [sum_zero hl hk]; simp [shapeN, *]; done)
set_option maxHeartbeats 4000000 in
theorem part_o (k : Int) (h1 : k ≠ 1) (h2 : k ≠ 2) (h3 : k ≠ 3) (h4 : k ≠ 4) (h5 : k ≠ 5) (h6 : k ≠ 6) (h7 : k ≠ 7) (h8 : k ≠ 8) (h9 : k ≠ 9) (s : Int) (n : Str) (ls : List Str) (kids : Nat) (lv : Value) (A' : Option Addr) (cap' : Nat) (w : World) (hn : n.length ≤ 9223372036854775807) (hl : ls.length ≤ 9223372036854775807) (hs : ∀ s ∈ ls, s.length ≤ 9223372036854775807) (hk : kids ≤ 9223372036854775807) (hv : IsStrs w lv ls) :
  Calls Tryz.prog 65 #[.agg #[.int .i64 k, .int .i64 s, .string ⟨n.toArray⟩, lv, .slice A' kids cap']] w fun e w' => e = .returned (.bool (shapeOk k s n ls kids)) ∧ Below w.heap.size w w' := by
 have HV := Lib.hid hv
 obtain ⟨A, cap, rfl, -, -⟩ := hv
 obtain ⟨ANS, hA⟩ : ∃ x, shapeOk k s n ls kids = x := ⟨_, rfl⟩
 rw [hA]
 have HS := Lib.hid hs; clear hs
 obtain ⟨L, hL⟩ : ∃ L, ls.length = L := ⟨_, rfl⟩
 have HL := Lib.hid hL
 obtain ⟨B, hB⟩ : ∃ x, labelsOk ls = x := ⟨_, rfl⟩
 have HB := Lib.hid hB
 unfold shapeOk at hA
 rw [hL, hB] at hA
 have HA := Lib.hid hA
 rw [hL] at hl HV ⊢; clear hL hA hB
 go_enter Tryz.func65, Tryz.ntmps65
 go_wp2_with fail
 all_goals
  go_ret
  refine ⟨ret_bool' ?_, by go_grown⟩
  rw [← HA.out]
  first | (simp [shapeN, *]; done) | (simp [shapeN, *]; omega) | (rw [Bool.eq_iff_iff]; simp [shapeN, *]; done) | (rw [Bool.eq_iff_iff]; simp [shapeN, *]; omega) | (rw [sum_zero hl hk]; simp [shapeN, *]; done)
theorem shaped_any (t : Ty) (v : Value) (w : World) (hv : IsTy w v t) (hf : Fit t) :
  Calls Tryz.prog 114 #[v] w fun e w' => e = .returned (.bool (shapeOk t.kind t.sort t.name t.labels t.kids.length)) ∧ Below w.heap.size w w' := by
 obtain ⟨lv, kv, rfl, h1, A, cap, rfl, -, -⟩ := hv
 obtain ⟨f1, f2, f3, f4, -⟩ := hf.parts
 unfold maxLen at f1 f2 f3 f4
 obtain ⟨k, s, n, ls, ks⟩ := t
 simp only [Ty.kind, Ty.sort, Ty.name, Ty.labels, Ty.kids] at *
 by_cases h : k = 1
 ·subst h; exact shaped_1 s n ls ks.length lv A cap w f1 f2 f3 f4 h1
 by_cases h2 : k = 2
 ·subst h2; exact shaped_2 s n ls ks.length lv A cap w f1 f2 f3 f4 h1
 by_cases h3 : k = 3
 ·subst h3; exact shaped_3 s n ls ks.length lv A cap w f1 f2 f3 f4 h1
 by_cases h4 : k = 4
 ·subst h4; exact shaped_4 s n ls ks.length lv A cap w f1 f2 f3 f4 h1
 by_cases h5 : k = 5
 ·subst h5; exact shaped_5 s n ls ks.length lv A cap w f1 f2 f3 f4 h1
 by_cases h6 : k = 6
 ·subst h6; exact shaped_6 s n ls ks.length lv A cap w f1 f2 f3 f4 h1
 by_cases h7 : k = 7
 ·subst h7; exact shaped_7 s n ls ks.length lv A cap w f1 f2 f3 f4 h1
 by_cases h8 : k = 8
 ·subst h8; exact shaped_8 s n ls ks.length lv A cap w f1 f2 f3 f4 h1
 by_cases h9 : k = 9
 ·subst h9; exact shaped_9 s n ls ks.length lv A cap w f1 f2 f3 f4 h1
 exact shaped_o k h h2 h3 h4 h5 h6 h7 h8 h9 s n ls ks.length lv A cap w f1 f2 f3 f4 h1

theorem part_any (t : Ty) (v : Value) (w : World) (hv : IsTy w v t) (hf : Fit t) :
  Calls Tryz.prog 65 #[v] w fun e w' => e = .returned (.bool (shapeOk t.kind t.sort t.name t.labels t.kids.length)) ∧ Below w.heap.size w w' := by
 obtain ⟨lv, kv, rfl, h1, A, cap, rfl, -, -⟩ := hv
 obtain ⟨f1, f2, f3, f4, -⟩ := hf.parts
 unfold maxLen at f1 f2 f3 f4
 obtain ⟨k, s, n, ls, ks⟩ := t
 simp only [Ty.kind, Ty.sort, Ty.name, Ty.labels, Ty.kids] at *
 by_cases h : k = 1
 ·subst h; exact part_1 s n ls ks.length lv A cap w f1 f2 f3 f4 h1
 by_cases h2 : k = 2
 ·subst h2; exact part_2 s n ls ks.length lv A cap w f1 f2 f3 f4 h1
 by_cases h3 : k = 3
 ·subst h3; exact part_3 s n ls ks.length lv A cap w f1 f2 f3 f4 h1
 by_cases h4 : k = 4
 ·subst h4; exact part_4 s n ls ks.length lv A cap w f1 f2 f3 f4 h1
 by_cases h5 : k = 5
 ·subst h5; exact part_5 s n ls ks.length lv A cap w f1 f2 f3 f4 h1
 by_cases h6 : k = 6
 ·subst h6; exact part_6 s n ls ks.length lv A cap w f1 f2 f3 f4 h1
 by_cases h7 : k = 7
 ·subst h7; exact part_7 s n ls ks.length lv A cap w f1 f2 f3 f4 h1
 by_cases h8 : k = 8
 ·subst h8; exact part_8 s n ls ks.length lv A cap w f1 f2 f3 f4 h1
 by_cases h9 : k = 9
 ·subst h9; exact part_9 s n ls ks.length lv A cap w f1 f2 f3 f4 h1
 exact part_o k h h2 h3 h4 h5 h6 h7 h8 h9 s n ls ks.length lv A cap w f1 f2 f3 f4 h1
mutual
def bottom : Ty → Ty
 | .mk k s n ls ks => if k = 8 ∧ ks.length = 1 then bottomF ks else .mk k s n ls ks
def bottomF : List Ty → Ty
 | [] => .mk 0 0 [] [] []
 | t :: _ => bottom t
end
mutual
def chk : Ty → List Str → Int → Int × Int
 | .mk k s n ls ks, bound, left =>
  if left - 1 < 0 then (2, left - 1)
  else if shapeOk k s n ls ks.length = false then (1, left - 1)
  else if k = 9 then (if n ∈ bound then chkKids ks bound (left - 1) else (4, left - 1))
  else if k = 8 then (if (bottom (.mk k s n ls ks)).kind = 9 then (7, left - 1) else chkKids ks (bound ++ [n]) (left - 1))
  else chkKids ks bound (left - 1)
def chkKids : List Ty → List Str → Int → Int × Int
 | [], _, left => (0, left)
 | k :: r, bound, left => if (chk k bound left).1 ≠ 0 then chk k bound left else chkKids r bound (chk k bound left).2
end
def chkList : Nat → List (Ty × List Str) → Int
 | _, [] => 0
 | 0, _ :: _ => 2
 | m + 1, (t, b) :: rest =>
  if shapeOk t.kind t.sort t.name t.labels t.kids.length = false then 1
  else if t.kind = 9 ∧ ¬ t.name ∈ b then 4
  else if t.kind = 8 then (if (bottom t).kind = 9 then 7 else chkList m ((t.kids.map fun c => (c, b ++ [t.name])) ++ rest))
  else chkList m ((t.kids.map fun c => (c, b)) ++ rest)
def tyErr (t : Ty) : Int := (chk t [] 60).1

def Agree (m : Nat) (x : Int × Int) (stack rest : List (Ty × List Str)) : Prop :=
 (x.1 ≠ 0 → chkList m stack = x.1) ∧ (x.1 = 0 → ∃ j : Nat, x.2 = j ∧ chkList m stack = chkList j rest)

mutual
theorem agree : ∀ (t : Ty) (b : List Str) (rest : List (Ty × List Str)) (m : Nat), Agree m (chk t b m) ((t, b) :: rest) rest
 | .mk k s n ls ks, b, rest, m => by
  cases m with
  | zero => simp [Agree, chk, chkList]
  | succ m =>
   have hm : ((m + 1 : Nat) : Int) - 1 = (m : Int) := by omega
   have h0 : ¬ (m : Int) < 0 := by omega
   have hc : chkList (m + 1) ((.mk k s n ls ks, b) :: rest) = (if shapeOk k s n ls ks.length = false then 1 else if k = 9 ∧ ¬ n ∈ b then 4 else if k = 8 then (if (bottom (.mk k s n ls ks)).kind = 9 then 7 else chkList m ((ks.map fun c => (c, b ++ [n])) ++ rest)) else chkList m ((ks.map fun c => (c, b)) ++ rest)) := rfl
   have h4 := agreeKids ks b rest m
   have h5 := agreeKids ks (b ++ [n]) rest m
   unfold Agree at h4 h5 ⊢
   rw [hc]
   simp only [chk]
   rw [hm, if_neg h0]
   by_cases h1 : shapeOk k s n ls ks.length = false
   ·rw [if_pos h1, if_pos h1]; simp
   rw [if_neg h1, if_neg h1]
   by_cases h9 : k = 9
   ·by_cases hb : n ∈ b
    ·rw [if_pos h9, if_pos hb, if_neg (fun h : k = 9 ∧ ¬ n ∈ b => h.2 hb), if_neg (by omega)]; exact h4
    ·rw [if_pos h9, if_neg hb, if_pos ⟨h9, hb⟩]; simp
   ·rw [if_neg h9, if_neg (fun h : k = 9 ∧ ¬ n ∈ b => h9 h.1)]
    by_cases h8 : k = 8
    ·rw [if_pos h8, if_pos h8]
     by_cases hq : (bottom (.mk k s n ls ks)).kind = 9
     ·rw [if_pos hq, if_pos hq]; simp
     ·rw [if_neg hq, if_neg hq]; exact h5
    ·rw [if_neg h8, if_neg h8]; exact h4
theorem agreeKids : ∀ (ks : List Ty) (b : List Str) (rest : List (Ty × List Str)) (m : Nat), Agree m (chkKids ks b m) ((ks.map fun c => (c, b)) ++ rest) rest
 | [], b, rest, m => ⟨fun h => absurd rfl h, fun _ => ⟨m, rfl, rfl⟩⟩
 | k :: r, b, rest, m => by
  have h1 := agree k b ((r.map fun c => (c, b)) ++ rest) m
  simp only [chkKids, List.map_cons, List.cons_append]
  by_cases he : (chk k b m).1 = 0
  ·obtain ⟨j, hj, hl⟩ := h1.2 he
   have h2 := agreeKids r b rest j
   simp only [he, ne_eq, not_true, if_false, hj]
   refine ⟨fun h => by rw [hl]; exact h2.1 h, fun h => ?_⟩
   obtain ⟨i, hi, hl2⟩ := h2.2 h
   exact ⟨i, hi, by rw [hl, hl2]⟩
  ·simp only [if_pos he]
   exact ⟨fun _ => h1.1 he, fun h => absurd h he⟩
end
theorem tyErr_list (t : Ty) : chkList 60 [(t, [])] = tyErr t := by
 have := agree t [] [] 60
 unfold tyErr
 by_cases h : (chk t [] (60 : Nat)).1 = 0
 ·obtain ⟨j, -, hl⟩ := this.2 h
  rw [hl]
  cases j <;> exact h.symm
 ·exact this.1 h
inductive Good : Ty → Prop where
 | mk (k s : Int) (n : Str) (ls : List Str) (ks : List Ty) (h : shapeOk k s n ls ks.length = true) (hk : ∀ t ∈ ks, Good t) : Good (.mk k s n ls ks)

mutual
theorem good_of_chk : ∀ (t : Ty) (b : List Str) (left : Int), (chk t b left).1 = 0 → Good t
 | .mk k s n ls ks, b, left, h => by
  simp only [chk] at h
  by_cases h1 : left - 1 < 0
  ·rw [if_pos h1] at h; simp at h
  rw [if_neg h1] at h
  by_cases h2 : shapeOk k s n ls ks.length = false
  ·rw [if_pos h2] at h; simp at h
  rw [if_neg h2] at h
  refine .mk k s n ls ks (by simpa using h2) ?_
  by_cases h9 : k = 9
  ·rw [if_pos h9] at h
   by_cases hb : n ∈ b
   ·rw [if_pos hb] at h; exact good_kids ks _ _ h
   ·rw [if_neg hb] at h; simp at h
  rw [if_neg h9] at h
  by_cases h8 : k = 8
  ·rw [if_pos h8] at h
   by_cases hq : (bottom (.mk k s n ls ks)).kind = 9
   ·rw [if_pos hq] at h; simp at h
   ·rw [if_neg hq] at h; exact good_kids ks _ _ h
  ·rw [if_neg h8] at h; exact good_kids ks _ _ h
theorem good_kids : ∀ (ks : List Ty) (b : List Str) (left : Int), (chkKids ks b left).1 = 0 → ∀ t ∈ ks, Good t
 | [], _, _, _ => by simp
 | k :: r, b, left, h => by
  simp only [chkKids] at h
  by_cases h1 : (chk k b left).1 = 0
  ·rw [if_neg (by simpa using h1)] at h
   have g1 := good_of_chk k b left h1
   have g2 := good_kids r b _ h
   intro t ht
   rcases List.mem_cons.1 ht with e | ht
   ·rw [e]; exact g1
   ·exact g2 t ht
  ·rw [if_pos h1] at h; exact absurd h h1
end

theorem Good.shape {t : Ty} (h : Good t) : shapeOk t.kind t.sort t.name t.labels t.kids.length = true := by cases h; assumption
theorem Good.kid {t : Ty} (h : Good t) : ∀ k ∈ t.kids, Good k := by cases h; assumption

theorem okFrom_names : ∀ {l : List Str} {p : Option Str}, okFrom p l = true → ∀ s ∈ l, isName s = true := by
 intro l
 induction l with
 | nil => intro p _ s hs; simp at hs
 | cons x r ih =>
  intro p h s hs
  simp only [okFrom, Bool.and_eq_true] at h
  rcases List.mem_cons.1 hs with rfl | hs
  ·exact h.1.1
  ·exact ih h.2 s hs
theorem isName_len {s : Str} (h : isName s = true) : 1 ≤ s.length ∧ s.length ≤ 8 := by
 simp only [isName, small, Bool.and_eq_true, decide_eq_true_eq] at h
 exact ⟨h.1.1.2, h.1.2⟩
theorem isVar_len {s : Str} (h : isVar s = true) : 1 ≤ s.length ∧ s.length ≤ 8 := by
 simp only [isVar, Bool.and_eq_true] at h
 exact isName_len h.1
theorem labelsOk_len {l : List Str} (h : labelsOk l = true) : 1 ≤ l.length ∧ l.length ≤ 6 ∧ ∀ s ∈ l, s.length ≤ 8 := by
 simp only [labelsOk, Bool.and_eq_true, decide_eq_true_eq] at h
 exact ⟨h.1.2, h.2, fun s hs => (isName_len (okFrom_names h.1.1 s hs)).2⟩

inductive Shape : Int → Int → Str → List Str → Nat → Prop where
 | fin : Shape 1 0 [] [] 0
 | value (k s : Int) (hk : k = 2 ∨ k = 3) (h1 : 1 ≤ s) (h3 : s ≤ 3) : Shape k s [] [] 1
 | channel (k : Int) (hk : k = 4 ∨ k = 5) : Shape k 0 [] [] 2
 | choice (k : Int) (hk : k = 6 ∨ k = 7) (ls : List Str) (h : labelsOk ls = true) : Shape k 0 [] ls ls.length
 | loop (n : Str) (h : isVar n = true) : Shape 8 0 n [] 1
 | var (n : Str) (h : isVar n = true) : Shape 9 0 n [] 0

theorem shape_of {k s : Int} {n : Str} {ls : List Str} {c : Nat} (h : shapeOk k s n ls c = true) : Shape k s n ls c := by
 unfold shapeOk shapeN at h
 by_cases h1 : k = 1
 ·simp only [h1, if_true, Bool.and_eq_true, decide_eq_true_eq, List.isEmpty_iff, List.length_eq_zero_iff] at h
  obtain ⟨⟨⟨rfl, rfl⟩, rfl⟩, rfl⟩ := h
  subst h1; exact .fin
 rw [if_neg h1] at h
 by_cases h2 : k = 2 ∨ k = 3
 ·simp only [if_pos h2, Bool.and_eq_true, decide_eq_true_eq, List.isEmpty_iff, List.length_eq_zero_iff] at h
  obtain ⟨⟨⟨⟨ha, hb⟩, rfl⟩, rfl⟩, rfl⟩ := h
  exact .value k s h2 ha hb
 rw [if_neg h2] at h
 by_cases h4 : k = 4 ∨ k = 5
 ·simp only [if_pos h4, Bool.and_eq_true, decide_eq_true_eq, List.isEmpty_iff, List.length_eq_zero_iff] at h
  obtain ⟨⟨⟨rfl, rfl⟩, rfl⟩, rfl⟩ := h
  exact .channel k h4
 rw [if_neg h4] at h
 by_cases h6 : k = 6 ∨ k = 7
 ·simp only [if_pos h6, Bool.and_eq_true, decide_eq_true_eq, List.isEmpty_iff] at h
  obtain ⟨⟨⟨rfl, rfl⟩, hl⟩, rfl⟩ := h
  exact .choice k h6 ls hl
 rw [if_neg h6] at h
 by_cases h8 : k = 8
 ·simp only [if_pos h8, Bool.and_eq_true, decide_eq_true_eq, List.length_eq_zero_iff] at h
  obtain ⟨⟨⟨rfl, hn⟩, rfl⟩, rfl⟩ := h
  subst h8; exact .loop n hn
 rw [if_neg h8] at h
 by_cases h9 : k = 9
 ·simp only [if_pos h9, Bool.and_eq_true, decide_eq_true_eq, List.length_eq_zero_iff] at h
  obtain ⟨⟨⟨rfl, hn⟩, rfl⟩, rfl⟩ := h
  subst h9; exact .var n hn
 rw [if_neg h9] at h
 cases h

theorem Shape.small {k s : Int} {n : Str} {ls : List Str} {c : Nat} (h : Shape k s n ls c) : n.length ≤ 8 ∧ ls.length ≤ 6 ∧ (∀ l ∈ ls, l.length ≤ 8) ∧ c ≤ 6 ∧ 1 ≤ k ∧ k ≤ 9 ∧ 0 ≤ s ∧ s ≤ 3 := by
 cases h with
 | fin => simp
 | value k s hk h1 h3 => refine ⟨by simp, by simp, by simp, by omega, ?_, ?_, by omega, by omega⟩ <;> omega
 | channel k hk => refine ⟨by simp, by simp, by simp, by omega, ?_, ?_, by omega, by omega⟩ <;> omega
 | choice k hk ls h =>
  obtain ⟨h1, h2, h3⟩ := labelsOk_len h
  refine ⟨by simp, h2, h3, by omega, ?_, ?_, by omega, by omega⟩ <;> omega
 | loop n h => exact ⟨(isVar_len h).2, by simp, by simp, by omega, by omega, by omega, by omega, by omega⟩
 | var n h => exact ⟨(isVar_len h).2, by simp, by simp, by omega, by omega, by omega, by omega, by omega⟩

theorem Good.small {t : Ty} (h : Good t) : t.name.length ≤ 8 ∧ t.labels.length ≤ 6 ∧ (∀ l ∈ t.labels, l.length ≤ 8) ∧ t.kids.length ≤ 6 :=
 let h := (shape_of h.shape).small; ⟨h.1, h.2.1, h.2.2.1, h.2.2.2.1⟩


def sortWord (s : Int) : Str := if s = 1 then [105, 110, 116] else if s = 2 then [98, 111, 111, 108] else if s = 3 then [116, 101, 120, 116] else []
def pairs : List Str → List Str → List Str
 | [], _ => []
 | _, [] => []
 | l :: ls, t :: ts => (l ++ [58] ++ t) :: pairs ls ts
def joined : List Str → Str
 | [] => []
 | [a] => a
 | a :: b :: r => a ++ [44] ++ joined (b :: r)
mutual
def txt : Ty → Str
 | .mk k s n ls ks => txtOf k s n ls (txts ks)
def txts : List Ty → List Str
 | [] => []
 | t :: r => txt t :: txts r
def txtOf (k s : Int) (n : Str) (ls : List Str) (ts : List Str) : Str :=
 if k = 1 then [101, 110, 100]
 else if k = 2 then [33] ++ sortWord s ++ [46] ++ ts.getD 0 []
 else if k = 3 then [63] ++ sortWord s ++ [46] ++ ts.getD 0 []
 else if k = 4 then [33, 123] ++ ts.getD 0 [] ++ [125, 46] ++ ts.getD 1 []
 else if k = 5 then [63, 123] ++ ts.getD 0 [] ++ [125, 46] ++ ts.getD 1 []
 else if k = 6 then [43, 123] ++ joined (pairs ls ts) ++ [125]
 else if k = 7 then [38, 123] ++ joined (pairs ls ts) ++ [125]
 else if k = 8 then [114, 101, 99, 32] ++ n ++ [46] ++ ts.getD 0 []
 else if k = 9 then n
 else []
end
mutual
def parts : Ty → Nat
 | .mk _ _ _ _ ks => 1 + partss ks
def partss : List Ty → Nat
 | [] => 0
 | t :: r => parts t + partss r
end
mutual
theorem chk_parts : ∀ (t : Ty) (b : List Str) (left : Int), (chk t b left).1 = 0 → (chk t b left).2 = left - parts t ∧ 0 ≤ (chk t b left).2
 | .mk k s n ls ks, b, left, h => by
  simp only [chk] at h ⊢
  by_cases h1 : left - 1 < 0
  ·rw [if_pos h1] at h; simp at h
  rw [if_neg h1] at h ⊢
  by_cases h2 : shapeOk k s n ls ks.length = false
  ·rw [if_pos h2] at h; simp at h
  rw [if_neg h2] at h ⊢
  have fin : ∀ b', (chkKids ks b' (left - 1)).1 = 0 → (chkKids ks b' (left - 1)).2 = left - parts (.mk k s n ls ks) ∧ 0 ≤ (chkKids ks b' (left - 1)).2 := by
   intro b' h'
   obtain ⟨e1, e2⟩ := chkKids_parts ks b' (left - 1) (by omega) h'
   refine ⟨?_, e2⟩
   rw [e1]; simp only [parts]; omega
  by_cases h9 : k = 9
  ·rw [if_pos h9] at h ⊢
   by_cases hb : n ∈ b
   ·rw [if_pos hb] at h ⊢; exact fin _ h
   ·rw [if_neg hb] at h; simp at h
  rw [if_neg h9] at h ⊢
  by_cases h8 : k = 8
  ·rw [if_pos h8] at h ⊢
   by_cases hq : (bottom (.mk k s n ls ks)).kind = 9
   ·rw [if_pos hq] at h; simp at h
   ·rw [if_neg hq] at h ⊢; exact fin _ h
  ·rw [if_neg h8] at h ⊢; exact fin _ h
theorem chkKids_parts : ∀ (ks : List Ty) (b : List Str) (left : Int), 0 ≤ left → (chkKids ks b left).1 = 0 → (chkKids ks b left).2 = left - partss ks ∧ 0 ≤ (chkKids ks b left).2
 | [], _, left, h0, _ => by simp [chkKids, partss, h0]
 | k :: r, b, left, h0, h => by
  simp only [chkKids] at h ⊢
  by_cases h1 : (chk k b left).1 = 0
  ·rw [if_neg (by simpa using h1)] at h ⊢
   obtain ⟨e1, e2⟩ := chk_parts k b left h1
   obtain ⟨e3, e4⟩ := chkKids_parts r b _ e2 h
   refine ⟨?_, e4⟩
   rw [e3, e1]; simp only [partss]; omega
  ·rw [if_pos h1] at h; exact absurd h h1
end
theorem parts_ok {t : Ty} (h : tyErr t = 0) : parts t ≤ 60 := by
 obtain ⟨h1, h2⟩ := chk_parts t [] 60 h
 omega

theorem sortWord_len (s : Int) : (sortWord s).length ≤ 4 := by
 unfold sortWord; repeat' split
 all_goals simp
def total : List Str → Nat
 | [] => 0
 | s :: r => s.length + total r
theorem getD_total (l : List Str) (i : Nat) : (l.getD i []).length ≤ total l := by
 induction l generalizing i with
 | nil => simp
 | cons x r ih =>
  cases i with
  | zero => simp [total]
  | succ i => have := ih i; simp only [List.getD_cons_succ, total]; omega
theorem getD_two (l : List Str) : (l.getD 0 []).length + (l.getD 1 []).length ≤ total l := by
 cases l with
 | nil => simp
 | cons x r => have := getD_total r 0; simp only [List.getD_cons_zero, List.getD_cons_succ, total]; omega
theorem joined_len : ∀ (l : List Str), (joined l).length ≤ total l + l.length
 | [] => by simp [joined]
 | [a] => by simp [joined, total]
 | a :: b :: r => by
  have := joined_len (b :: r)
  simp only [joined, total, List.length_append, List.length_cons, List.length_nil] at this ⊢
  omega
theorem pairs_total : ∀ (ls ts : List Str), (∀ l ∈ ls, l.length ≤ 8) → total (pairs ls ts) ≤ total ts + 9 * ls.length ∧ (pairs ls ts).length ≤ ls.length
 | [], _, _ => by simp [pairs, total]
 | _ :: _, [], _ => by simp [pairs, total]
 | l :: ls, t :: ts, h => by
  obtain ⟨h1, h2⟩ := pairs_total ls ts fun x hx => h x (by simp [hx])
  have := h l (by simp)
  simp only [pairs, total, List.length_append, List.length_cons, List.length_nil] at h1 h2 ⊢
  omega
theorem txtOf_len {k s : Int} {n : Str} {ls ts : List Str} (hn : n.length ≤ 8) (hl : ls.length ≤ 6) (hls : ∀ l ∈ ls, l.length ≤ 8) : (txtOf k s n ls ts).length ≤ 100 + total ts := by
 have h1 := sortWord_len s
 have h2 := getD_total ts 0
 have h3 := getD_two ts
 have h4 := joined_len (pairs ls ts)
 obtain ⟨h5, h6⟩ := pairs_total ls ts hls
 unfold txtOf
 repeat' split
 all_goals (try simp only [List.length_append, List.length_cons, List.length_nil])
 all_goals omega
mutual
theorem txt_len : ∀ t : Ty, Good t → (txt t).length ≤ 100 * parts t
 | .mk k s n ls ks, h => by
  obtain ⟨h1, h2, h3, -⟩ := h.small
  have h4 := txts_len ks h.kid
  have := txtOf_len (k := k) (s := s) (ts := txts ks) h1 h2 h3
  simp only [txt, parts, Ty.name, Ty.labels] at *
  omega
theorem txts_len : ∀ ks : List Ty, (∀ t ∈ ks, Good t) → total (txts ks) ≤ 100 * partss ks
 | [], _ => by simp [txts, total]
 | t :: r, h => by
  have h1 := txt_len t (h t (by simp))
  have h2 := txts_len r fun k hk => h k (by simp [hk])
  simp only [txts, total, partss]
  omega
end
theorem txts_length : ∀ ks : List Ty, (txts ks).length = ks.length
 | [] => rfl
 | t :: r => by simp [txts, txts_length r]
theorem txts_at : ∀ {ks : List Ty} {i : Nat} {t : Ty}, ks[i]? = some t → (txts ks)[i]? = some (txt t)
 | [], i, t, h => by simp at h
 | k :: r, 0, t, h => by simp at h; subst h; rfl
 | k :: r, i + 1, t, h => by simp only [txts, List.getElem?_cons_succ] at h ⊢; exact txts_at h
theorem parts_at : ∀ {ks : List Ty} {t : Ty}, t ∈ ks → parts t ≤ partss ks
 | [], t, h => by simp at h
 | k :: r, t, h => by
  simp only [partss]
  rcases List.mem_cons.1 h with rfl | h
  ·omega
  ·have := parts_at h; omega
theorem joined_snoc : ∀ (l : List Str) (a : Str), l ≠ [] → joined (l ++ [a]) = joined l ++ [44] ++ a
 | [], _, h => absurd rfl h
 | [x], a, _ => by simp [joined]
 | x :: y :: r, a, _ => by
  have := joined_snoc (y :: r) a (by simp)
  simp only [List.cons_append, joined] at this ⊢
  rw [this]
  simp
end Go.Proofs.YtpidjanngbaiiaaGreatDoor
namespace Go.Proofs.YtpidjanngbaiiaaGreatDoor
open Go.RowKit Go.Proofs

section
variable {P : Program} {ops : Array Oper} {rest : List Oper} {o : Oper} {a : Act} {Q : Exit → Act → World → Prop} {w : World}
end

inductive Cells5 (w : World) : List Value → List Ty → Prop where
 | nil : Cells5 w [] []
 | cons (t : Ty) (lv kv : Value) (xs : List Value) (ts : List Ty) (h1 : IsStrs w lv t.labels) (h2 : IsTys w kv t.kids) (h : Cells5 w xs ts) :
   Cells5 w (.int .i64 t.kind :: .int .i64 t.sort :: .string ⟨t.name.toArray⟩ :: lv :: kv :: xs) (t :: ts)
theorem Cells5.length {w : World} {xs : List Value} {ts : List Ty} (h : Cells5 w xs ts) : xs.length = ts.length * 5 := by
 induction h with
 | nil => rfl
 | cons => simp only [List.length_cons]; omega
theorem Cells5.append {w : World} {xs ys : List Value} {ts us : List Ty} (h : Cells5 w xs ts) (h' : Cells5 w ys us) : Cells5 w (xs ++ ys) (ts ++ us) := by
 induction h with
 | nil => exact h'
 | cons t lv kv xs ts h1 h2 _ ih => exact .cons t lv kv _ _ h1 h2 ih
theorem Cells5.keep {w w' : World} {xs : List Value} {ts : List Ty} (h : Cells5 w xs ts) (hb : Below w.heap.size w w') : Cells5 w' xs ts := by
 induction h with
 | nil => exact .nil
 | cons t lv kv xs ts h1 h2 _ ih => exact .cons t lv kv _ _ (h1.keep hb) (h2.keep hb) ih
theorem IsTys.one {w : World} {v : Value} {l : List Ty} (h : IsTys w v l) : v.oneCell' = true := by obtain ⟨A, cap, rfl, _⟩ := h; rfl
theorem Cells5.one {w : World} {xs : List Value} {ts : List Ty} (h : Cells5 w xs ts) : ∀ u ∈ xs, u.oneCell' = true := by
 induction h with
 | nil => simp
 | cons t lv kv xs ts h1 h2 _ ih =>
  intro u hu
  simp only [List.mem_cons] at hu
  rcases hu with rfl | rfl | rfl | rfl | rfl | hu
  ·rfl
  ·rfl
  ·rfl
  ·exact h1.one
  ·exact h2.one
  ·exact ih u hu
theorem Cells5.row {w : World} {b : Nat} {xs : List Value} {ts : List Ty} (h : Cells5 w xs ts) : ∀ (off : Nat), (∀ j u, xs[j]? = some u → w.cell? ⟨b, off + j, none⟩ = some u) → TyRow w b off ts := by
 induction h with
 | nil => intro off _; simp [TyRow]
 | cons t lv kv xs ts h1 h2 _ ih =>
  intro off hc
  refine ⟨(TyAt_iff _ _ _ _).2 ⟨lv, kv, hc 0 _ rfl, hc 1 _ rfl, hc 2 _ rfl, hc 3 _ rfl, hc 4 _ rfl, h1, h2⟩, ih (off + 5) fun j u hj => ?_⟩
  have := hc (j + 5) u (by simpa using hj)
  rw [show off + 5 + j = off + (j + 5) by omega]
  exact this
theorem kid_at {w : World} {A : Option Addr} {n cap : Nat} {ks : List Ty} {i : Nat} {t : Ty} (h : IsTys w (.slice A n cap) ks) (hi : ks[i]? = some t) :
  n = ks.length ∧ n ≤ cap ∧ ∃ b off A1 n1 p1 A2 n2 p2, A = some ⟨b, off, none⟩ ∧ w.cell? ⟨b, off + i * 5, none⟩ = some (.int .i64 t.kind) ∧ w.cell? ⟨b, off + i * 5 + 1, none⟩ = some (.int .i64 t.sort) ∧ w.cell? ⟨b, off + i * 5 + 2, none⟩ = some (.string ⟨t.name.toArray⟩) ∧
   w.cell? ⟨b, off + i * 5 + 3, none⟩ = some (.slice A1 n1 p1) ∧ w.cell? ⟨b, off + i * 5 + 4, none⟩ = some (.slice A2 n2 p2) ∧ IsStrs w (.slice A1 n1 p1) t.labels ∧ IsTys w (.slice A2 n2 p2) t.kids := by
 obtain ⟨A', cap', e, hle, h3⟩ := h
 injection e with e1 e2 e3
 subst e1 e2 e3
 have hlt := (List.getElem?_eq_some_iff.1 hi).1
 obtain ⟨b, off, rfl, hr⟩ := h3 (by omega)
 obtain ⟨lv, kv, c0, c1, c2, c3, c4, h5, h6⟩ := (TyAt_iff _ _ _ _).1 (TyRow_at hr hi)
 have h5' := h5
 have h6' := h6
 obtain ⟨A1, p1, rfl, _⟩ := h5
 obtain ⟨A2, p2, rfl, _⟩ := h6
 exact ⟨rfl, hle, b, off, A1, _, p1, A2, _, p2, rfl, c0, c1, c2, c3, c4, h5', h6'⟩
theorem isTy_of {w : World} {t : Ty} {lv kv : Value} (h1 : IsStrs w lv t.labels) (h2 : IsTys w kv t.kids) : IsTy w (.agg #[.int .i64 t.kind, .int .i64 t.sort, .string ⟨t.name.toArray⟩, lv, kv]) t := ⟨lv, kv, rfl, h1, h2⟩
theorem rt_types : RowType Tryz.prog 28 30 5 80 := .mk' (z := .agg #[.int .i64 0, .int .i64 0, .string ⟨#[]⟩, .slice none 0 0, .slice none 0 0]) Tryz.underlying28 (by kernel_rfl) rfl (by decide)
end Go.Proofs.YtpidjanngbaiiaaGreatDoor
namespace Go.Proofs.YtpidjanngbaiiaaGreatDoor
open Go.RowKit Go.Proofs

mutual
def TyAtD (D : Blocks) (w : World) (b off : Nat) : Ty → Prop
 | .mk k s n ls ks => ∃ lv kv, w.cell? ⟨b, off, none⟩ = some (.int .i64 k) ∧ w.cell? ⟨b, off + 1, none⟩ = some (.int .i64 s) ∧ w.cell? ⟨b, off + 2, none⟩ = some (.string ⟨n.toArray⟩) ∧ w.cell? ⟨b, off + 3, none⟩ = some lv ∧ w.cell? ⟨b, off + 4, none⟩ = some kv ∧
   StrsD D w lv ls ∧ ∃ A cap, kv = .slice A ks.length cap ∧ ks.length ≤ cap ∧ (0 < ks.length → ∃ b' off', A = some ⟨b', off', none⟩ ∧ D b' ∧ TyRowD D w b' off' ks)
def TyRowD (D : Blocks) (w : World) (b off : Nat) : List Ty → Prop
 | [] => True
 | t :: r => TyAtD D w b off t ∧ TyRowD D w b (off + 5) r
end
def TysD (D : Blocks) (w : World) (v : Value) (ks : List Ty) : Prop := ∃ A cap, v = .slice A ks.length cap ∧ ks.length ≤ cap ∧ (0 < ks.length → ∃ b off, A = some ⟨b, off, none⟩ ∧ D b ∧ TyRowD D w b off ks)
def TyD (D : Blocks) (w : World) (v : Value) (t : Ty) : Prop := ∃ lv kv, v = .agg #[.int .i64 t.kind, .int .i64 t.sort, .string ⟨t.name.toArray⟩, lv, kv] ∧ StrsD D w lv t.labels ∧ TysD D w kv t.kids

theorem TyAtD_iff (D : Blocks) (w : World) (b off : Nat) (t : Ty) : TyAtD D w b off t ↔ ∃ lv kv, w.cell? ⟨b, off, none⟩ = some (.int .i64 t.kind) ∧ w.cell? ⟨b, off + 1, none⟩ = some (.int .i64 t.sort) ∧ w.cell? ⟨b, off + 2, none⟩ = some (.string ⟨t.name.toArray⟩) ∧ w.cell? ⟨b, off + 3, none⟩ = some lv ∧ w.cell? ⟨b, off + 4, none⟩ = some kv ∧
  StrsD D w lv t.labels ∧ TysD D w kv t.kids := by
 cases t with
 | mk k s n ls ks => simp only [TyAtD, TysD, Ty.kind, Ty.sort, Ty.name, Ty.labels, Ty.kids]
theorem TyRowD_at {D : Blocks} {w : World} {b : Nat} : ∀ {ks : List Ty} {off i : Nat} {t : Ty}, TyRowD D w b off ks → ks[i]? = some t → TyAtD D w b (off + i * 5) t := by
 intro ks
 induction ks with
 | nil => intro off i t _ h; simp at h
 | cons x r ih =>
  intro off i t h hi
  simp only [TyRowD] at h
  match i, hi with
  | 0, hi => simp at hi; subst hi; simpa using h.1
  | i + 1, hi =>
   have := ih h.2 (by simpa using hi)
   rw [show off + (i + 1) * 5 = off + 5 + i * 5 by omega]
   exact this

mutual
theorem TyAtD_keep {D D' : Blocks} {w w' : World} (hs : Same D w w') (hD : ∀ b, D b → b < w.heap.size → D' b) : ∀ {b off : Nat} (t : Ty), D b → TyAtD D w b off t → TyAtD D' w' b off t
 | b, off, .mk k s n ls ks => by
  simp only [TyAtD]
  rintro hd ⟨lv, kv, h0, h1, h2, h3, h4, h5, A, cap, h6, h7, h8⟩
  refine ⟨lv, kv, hs.cell hd h0, hs.cell hd h1, hs.cell hd h2, hs.cell hd h3, hs.cell hd h4, h5.keep hs hD, A, cap, h6, h7, fun h0 => ?_⟩
  obtain ⟨b', off', e, hd', hr⟩ := h8 h0
  refine ⟨b', off', e, hD b' hd' ?_, TyRowD_keep hs hD ks hd' hr⟩
  cases ks with
  | nil => simp at h0
  | cons t r =>
   obtain ⟨hr1, -⟩ := hr
   obtain ⟨_, _, hc, -⟩ := (TyAtD_iff _ _ _ _ _).1 hr1
   exact cell_lt hc
theorem TyRowD_keep {D D' : Blocks} {w w' : World} (hs : Same D w w') (hD : ∀ b, D b → b < w.heap.size → D' b) : ∀ {b off : Nat} (ks : List Ty), D b → TyRowD D w b off ks → TyRowD D' w' b off ks
 | _, _, [] => by simp [TyRowD]
 | b, off, t :: r => by
  simp only [TyRowD]
  rintro hd ⟨h1, h2⟩
  exact ⟨TyAtD_keep hs hD t hd h1, TyRowD_keep hs hD r hd h2⟩
end
theorem TysD.keep {D D' : Blocks} {w w' : World} {v : Value} {ks : List Ty} (h : TysD D w v ks) (hs : Same D w w') (hD : ∀ b, D b → b < w.heap.size → D' b) : TysD D' w' v ks := by
 obtain ⟨A, cap, h1, h2, h3⟩ := h
 refine ⟨A, cap, h1, h2, fun h0 => ?_⟩
 obtain ⟨b, off, e, hd, hr⟩ := h3 h0
 refine ⟨b, off, e, hD b hd ?_, TyRowD_keep hs hD ks hd hr⟩
 cases ks with
 | nil => simp at h0
 | cons t r =>
  obtain ⟨hr1, -⟩ := hr
  obtain ⟨_, _, hc, -⟩ := (TyAtD_iff _ _ _ _ _).1 hr1
  exact cell_lt hc
theorem TyD.keep {D D' : Blocks} {w w' : World} {v : Value} {t : Ty} (h : TyD D w v t) (hs : Same D w w') (hD : ∀ b, D b → b < w.heap.size → D' b) : TyD D' w' v t := by
 obtain ⟨lv, kv, h1, h2, h3⟩ := h
 exact ⟨lv, kv, h1, h2.keep hs hD, h3.keep hs hD⟩

mutual
theorem TyAtD_is {D : Blocks} {w : World} : ∀ {b off : Nat} (t : Ty), TyAtD D w b off t → TyAt w b off t
 | b, off, .mk k s n ls ks => by
  simp only [TyAtD, TyAt]
  rintro ⟨lv, kv, h0, h1, h2, h3, h4, h5, A, cap, h6, h7, h8⟩
  exact ⟨lv, kv, h0, h1, h2, h3, h4, h5.is, A, cap, h6, h7, fun h0 => let ⟨b', off', e, _, hr⟩ := h8 h0; ⟨b', off', e, TyRowD_is ks hr⟩⟩
theorem TyRowD_is {D : Blocks} {w : World} : ∀ {b off : Nat} (ks : List Ty), TyRowD D w b off ks → TyRow w b off ks
 | _, _, [] => by simp [TyRow]
 | b, off, t :: r => by
  simp only [TyRow, TyRowD]
  rintro ⟨h1, h2⟩
  exact ⟨TyAtD_is t h1, TyRowD_is r h2⟩
end
theorem TysD.is {D : Blocks} {w : World} {v : Value} {ks : List Ty} (h : TysD D w v ks) : IsTys w v ks := by
 obtain ⟨A, cap, h1, h2, h3⟩ := h
 exact ⟨A, cap, h1, h2, fun h0 => let ⟨b, off, e, _, hr⟩ := h3 h0; ⟨b, off, e, TyRowD_is ks hr⟩⟩
theorem TyD.is {D : Blocks} {w : World} {v : Value} {t : Ty} (h : TyD D w v t) : IsTy w v t := by
 obtain ⟨lv, kv, h1, h2, h3⟩ := h
 exact ⟨lv, kv, h1, h2.is, h3.is⟩
theorem row_lt {w : World} {b off : Nat} {ks : List Ty} (h0 : 0 < ks.length) (hr : TyRow w b off ks) : b < w.heap.size := by
 cases ks with
 | nil => simp at h0
 | cons t r =>
  obtain ⟨hr1, -⟩ := hr
  obtain ⟨_, _, hc, -⟩ := (TyAt_iff _ _ _ _).1 hr1
  exact cell_lt hc
mutual
theorem TyAt_toD {w : World} : ∀ {b off : Nat} (t : Ty), TyAt w b off t → TyAtD (· < w.heap.size) w b off t
 | b, off, .mk k s n ls ks => by
  simp only [TyAtD, TyAt]
  rintro ⟨lv, kv, h0, h1, h2, h3, h4, h5, A, cap, h6, h7, h8⟩
  exact ⟨lv, kv, h0, h1, h2, h3, h4, h5.toD, A, cap, h6, h7, fun h0 => let ⟨b', off', e, hr⟩ := h8 h0; ⟨b', off', e, row_lt h0 hr, TyRow_toD ks hr⟩⟩
theorem TyRow_toD {w : World} : ∀ {b off : Nat} (ks : List Ty), TyRow w b off ks → TyRowD (· < w.heap.size) w b off ks
 | _, _, [] => by simp [TyRowD]
 | b, off, t :: r => by
  simp only [TyRow, TyRowD]
  rintro ⟨h1, h2⟩
  exact ⟨TyAt_toD t h1, TyRow_toD r h2⟩
end
theorem IsTy.toD {w : World} {v : Value} {t : Ty} (h : IsTy w v t) : TyD (· < w.heap.size) w v t := by
 obtain ⟨lv, kv, h1, h2, A, cap, h3, h4, h5⟩ := h
 exact ⟨lv, kv, h1, h2.toD, A, cap, h3, h4, fun h0 => let ⟨b, off, e, hr⟩ := h5 h0; ⟨b, off, e, row_lt h0 hr, TyRow_toD _ hr⟩⟩

theorem kid_atD {D : Blocks} {w : World} {A : Option Addr} {n cap : Nat} {ks : List Ty} {i : Nat} {t : Ty} (h : TysD D w (.slice A n cap) ks) (hi : ks[i]? = some t) :
  n = ks.length ∧ n ≤ cap ∧ ∃ b off A1 n1 p1 A2 n2 p2, A = some ⟨b, off, none⟩ ∧ D b ∧ w.cell? ⟨b, off + i * 5, none⟩ = some (.int .i64 t.kind) ∧ w.cell? ⟨b, off + i * 5 + 1, none⟩ = some (.int .i64 t.sort) ∧ w.cell? ⟨b, off + i * 5 + 2, none⟩ = some (.string ⟨t.name.toArray⟩) ∧
   w.cell? ⟨b, off + i * 5 + 3, none⟩ = some (.slice A1 n1 p1) ∧ w.cell? ⟨b, off + i * 5 + 4, none⟩ = some (.slice A2 n2 p2) ∧ StrsD D w (.slice A1 n1 p1) t.labels ∧ TysD D w (.slice A2 n2 p2) t.kids := by
 obtain ⟨A', cap', e, hle, h3⟩ := h
 injection e with e1 e2 e3
 subst e1 e2 e3
 have hlt := (List.getElem?_eq_some_iff.1 hi).1
 obtain ⟨b, off, rfl, hd, hr⟩ := h3 (by omega)
 obtain ⟨lv, kv, c0, c1, c2, c3, c4, h5, h6⟩ := (TyAtD_iff _ _ _ _ _).1 (TyRowD_at hr hi)
 have h5' := h5
 have h6' := h6
 obtain ⟨A1, p1, rfl, _⟩ := h5
 obtain ⟨A2, p2, rfl, _⟩ := h6
 exact ⟨rfl, hle, b, off, A1, _, p1, A2, _, p2, rfl, hd, c0, c1, c2, c3, c4, h5', h6'⟩
theorem tyD_of {D : Blocks} {w : World} {t : Ty} {lv kv : Value} (h1 : StrsD D w lv t.labels) (h2 : TysD D w kv t.kids) : TyD D w (.agg #[.int .i64 t.kind, .int .i64 t.sort, .string ⟨t.name.toArray⟩, lv, kv]) t := ⟨lv, kv, rfl, h1, h2⟩

inductive Cells5D (D : Blocks) (w : World) : List Value → List Ty → Prop where
 | nil : Cells5D D w [] []
 | cons (t : Ty) (lv kv : Value) (xs : List Value) (ts : List Ty) (h1 : StrsD D w lv t.labels) (h2 : TysD D w kv t.kids) (h : Cells5D D w xs ts) :
   Cells5D D w (.int .i64 t.kind :: .int .i64 t.sort :: .string ⟨t.name.toArray⟩ :: lv :: kv :: xs) (t :: ts)
theorem Cells5D.append {D : Blocks} {w : World} {xs ys : List Value} {ts us : List Ty} (h : Cells5D D w xs ts) (h' : Cells5D D w ys us) : Cells5D D w (xs ++ ys) (ts ++ us) := by
 induction h with
 | nil => exact h'
 | cons t lv kv xs ts h1 h2 _ ih => exact .cons t lv kv _ _ h1 h2 ih
theorem Cells5D.keep {D D' : Blocks} {w w' : World} {xs : List Value} {ts : List Ty} (h : Cells5D D w xs ts) (hs : Same D w w') (hD : ∀ b, D b → b < w.heap.size → D' b) : Cells5D D' w' xs ts := by
 induction h with
 | nil => exact .nil
 | cons t lv kv xs ts h1 h2 _ ih => exact .cons t lv kv _ _ (h1.keep hs hD) (h2.keep hs hD) ih
theorem Cells5D.row {D : Blocks} {w : World} {b : Nat} {xs : List Value} {ts : List Ty} (h : Cells5D D w xs ts) : ∀ (off : Nat), (∀ j u, xs[j]? = some u → w.cell? ⟨b, off + j, none⟩ = some u) → TyRowD D w b off ts := by
 induction h with
 | nil => intro off _; simp [TyRowD]
 | cons t lv kv xs ts h1 h2 _ ih =>
  intro off hc
  refine ⟨(TyAtD_iff _ _ _ _ _).2 ⟨lv, kv, hc 0 _ rfl, hc 1 _ rfl, hc 2 _ rfl, hc 3 _ rfl, hc 4 _ rfl, h1, h2⟩, ih (off + 5) fun j u hj => ?_⟩
  have := hc (j + 5) u (by simpa using hj)
  rw [show off + 5 + j = off + (j + 5) by omega]
  exact this
theorem own_tysD {D : Blocks} {w : World} {base : Nat} {E : TypeId} {v : Value} {xs : List Value} {ts : List Ty} (h : w.ownsRow base E 5 v ts.length xs) (hc : Cells5D D w xs ts) (hD : ∀ b, base ≤ b → D b) : TysD D w v ts := by
 have hcells := fun g => h.cells (g := g)
 rcases h.2 with ⟨rfl, h0⟩ | ⟨g, cap, cur, rfl, hg, _, hn, _⟩
 ·refine ⟨none, 0, by rw [h0], by omega, fun h1 => by omega⟩
 ·refine ⟨_, cap, rfl, hn, fun _ => ⟨g, 0, rfl, hD g hg, hc.row 0 fun j u hj => ?_⟩⟩
  have := hcells g rfl j u hj
  rw [Go.WideShapes.add_plain] at this
  exact this

structure VBox (w : World) (b : Nat) (t : Ty) (lv kv : Value) : Prop where
 c0 : w.cell? ⟨b, 0, none⟩ = some (.int .i64 t.kind)
 c1 : w.cell? ⟨b, 1, none⟩ = some (.int .i64 t.sort)
 c2 : w.cell? ⟨b, 2, none⟩ = some (.string ⟨t.name.toArray⟩)
 c3 : w.cell? ⟨b, 3, none⟩ = some lv
 c4 : w.cell? ⟨b, 4, none⟩ = some kv
 fr : ∀ j, w.frozen? ⟨b, j, none⟩ = false
 lt : b < w.heap.size
theorem VBox.keep {w w' : World} {b B : Nat} {t : Ty} {lv kv : Value} (h : VBox w b t lv kv) (hb : Below B w w') (hB : b < B) : VBox w' b t lv kv :=
 ⟨(hb.cell (p := ⟨b, 0, none⟩) hB).trans h.c0, (hb.cell (p := ⟨b, 1, none⟩) hB).trans h.c1, (hb.cell (p := ⟨b, 2, none⟩) hB).trans h.c2, (hb.cell (p := ⟨b, 3, none⟩) hB).trans h.c3, (hb.cell (p := ⟨b, 4, none⟩) hB).trans h.c4, fun j => (hb.frozen (p := ⟨b, j, none⟩) hB).trans (h.fr j), Nat.lt_of_lt_of_le h.lt hb.size⟩
theorem VBox.far {w : World} {b : Nat} {t : Ty} {lv kv : Value} (h : VBox w b t lv kv) {p : Addr} (hp : p.block ≠ b) (u : Value) : VBox (w.setCell p u) b t lv kv :=
 ⟨(World.cell?_setCell_far w p _ u hp).trans h.c0, (World.cell?_setCell_far w p _ u hp).trans h.c1, (World.cell?_setCell_far w p _ u hp).trans h.c2, (World.cell?_setCell_far w p _ u hp).trans h.c3, (World.cell?_setCell_far w p _ u hp).trans h.c4, fun j => by rw [World.frozen?_setCell]; exact h.fr j, by rw [World.size_setCell]; exact h.lt⟩
theorem VBox.set4 {w : World} {b : Nat} {t : Ty} {lv kv : Value} (h : VBox w b t lv kv) (u : Value) : VBox (w.setCell ⟨b, 4, none⟩ u) b t lv u :=
 ⟨(World.cell?_setCell_other w _ _ u (by simp)).trans h.c0, (World.cell?_setCell_other w _ _ u (by simp)).trans h.c1, (World.cell?_setCell_other w _ _ u (by simp)).trans h.c2, (World.cell?_setCell_other w _ _ u (by simp)).trans h.c3, World.cell?_setCell_same' w _ u (by rw [h.c4]; rfl), fun j => by rw [World.frozen?_setCell]; exact h.fr j, by rw [World.size_setCell]; exact h.lt⟩
theorem five_new (w : World) (a b c d e : Value) (E : TypeId) : ∀ j u, [a, b, c, d, e][j]? = some u → (w.alloc (.cells #[a, b, c, d, e] E)).cell? ((⟨w.heap.size, 0, none⟩ : Addr).add j) = some u := by
 intro j u hj
 rw [Go.WideShapes.add_plain]
 match j, hj with
 | 0, hj | 1, hj | 2, hj | 3, hj | 4, hj => simp at hj; subst hj; simp [go_sem]
 | j + 5, hj => simp at hj
theorem VBox.fill {w : World} {b : Nat} {t0 : Ty} {l0 k0 : Value} (h : VBox w b t0 l0 k0) (t : Ty) (lv kv : Value) :
  VBox (((((w.setCell ⟨b, 0, none⟩ (.int .i64 t.kind)).setCell ⟨b, 1, none⟩ (.int .i64 t.sort)).setCell ⟨b, 2, none⟩ (.string ⟨t.name.toArray⟩)).setCell ⟨b, 3, none⟩ lv).setCell ⟨b, 4, none⟩ kv) b t lv kv := by
 obtain ⟨c0, c1, c2, c3, c4, fr, lt⟩ := h
 have ne : ∀ {i j : Nat} {w : World} {u : Value}, i ≠ j → (w.setCell ⟨b, i, none⟩ u).cell? ⟨b, j, none⟩ = w.cell? ⟨b, j, none⟩ := fun h => World.cell?_setCell_other _ _ _ _ (fun e => h (by injection e))
 have eq : ∀ {i : Nat} {w : World} {u x : Value}, w.cell? ⟨b, i, none⟩ = some x → (w.setCell ⟨b, i, none⟩ u).cell? ⟨b, i, none⟩ = some u := fun h => World.cell?_setCell_same' _ _ _ (by rw [h]; rfl)
 refine ⟨?_, ?_, ?_, ?_, ?_, fun j => by simp only [World.frozen?_setCell]; exact fr j, by simp only [World.size_setCell]; exact lt⟩
 ·rw [ne (by decide), ne (by decide), ne (by decide), ne (by decide)]; exact eq c0
 ·rw [ne (by decide), ne (by decide), ne (by decide)]; exact eq (by rw [ne (by decide)]; exact c1)
 ·rw [ne (by decide), ne (by decide)]; exact eq (by rw [ne (by decide), ne (by decide)]; exact c2)
 ·rw [ne (by decide)]; exact eq (by rw [ne (by decide), ne (by decide), ne (by decide)]; exact c3)
 ·exact eq (by rw [ne (by decide), ne (by decide), ne (by decide), ne (by decide)]; exact c4)
theorem Same.fill {D : Blocks} {w : World} {b : Nat} (h : ¬ D b) (x0 x1 x2 x3 x4 : Value) :
  Same D w (((((w.setCell ⟨b, 0, none⟩ x0).setCell ⟨b, 1, none⟩ x1).setCell ⟨b, 2, none⟩ x2).setCell ⟨b, 3, none⟩ x3).setCell ⟨b, 4, none⟩ x4) := by
 refine Same.trans (Same.trans (Same.trans (Same.trans (Same.set h) ?_ (Same.set h)) ?_ (Same.set h)) ?_ (Same.set h)) ?_ (Same.set h)
 all_goals simp only [World.size_setCell]
 all_goals exact Nat.le_refl _
theorem below_fill {B : Nat} {a w : World} (h : Below B a w) {b : Nat} (hb : B ≤ b) (x0 x1 x2 x3 x4 : Value) :
  Below B a (((((w.setCell ⟨b, 0, none⟩ x0).setCell ⟨b, 1, none⟩ x1).setCell ⟨b, 2, none⟩ x2).setCell ⟨b, 3, none⟩ x3).setCell ⟨b, 4, none⟩ x4) :=
 ((((h.setCell hb _).setCell hb _).setCell hb _).setCell hb _).setCell hb _
abbrev Todo := Ty × List Str
inductive Cells6 (w : World) : List Value → List Todo → Prop where
 | nil : Cells6 w [] []
 | cons (t : Ty) (ns : List Str) (lv kv nv : Value) (xs : List Value) (ts : List Todo) (h1 : IsStrs w lv t.labels) (h2 : IsTys w kv t.kids) (h3 : Names w nv ns) (h : Cells6 w xs ts) :
   Cells6 w (.int .i64 t.kind :: .int .i64 t.sort :: .string ⟨t.name.toArray⟩ :: lv :: kv :: nv :: xs) ((t, ns) :: ts)
theorem Cells6.length {w : World} {xs : List Value} {ts : List Todo} (h : Cells6 w xs ts) : xs.length = ts.length * 6 := by
 induction h with
 | nil => rfl
 | cons => simp only [List.length_cons]; omega
theorem Cells6.append {w : World} {xs ys : List Value} {ts us : List Todo} (h : Cells6 w xs ts) (h' : Cells6 w ys us) : Cells6 w (xs ++ ys) (ts ++ us) := by
 induction h with
 | nil => exact h'
 | cons t ns lv kv nv xs ts h1 h2 h3 _ ih => exact .cons t ns lv kv nv _ _ h1 h2 h3 ih
theorem Cells6.keep {w w' : World} {xs : List Value} {ts : List Todo} (h : Cells6 w xs ts) (hb : Below w.heap.size w w') : Cells6 w' xs ts := by
 induction h with
 | nil => exact .nil
 | cons t ns lv kv nv xs ts h1 h2 h3 _ ih => exact .cons t ns lv kv nv _ _ (h1.keep hb) (h2.keep hb) (h3.keep hb) ih
theorem Cells6.one {w : World} {xs : List Value} {ts : List Todo} (h : Cells6 w xs ts) : ∀ u ∈ xs, u.oneCell' = true := by
 induction h with
 | nil => simp
 | cons t ns lv kv nv xs ts h1 h2 h3 _ ih =>
  intro u hu
  simp only [List.mem_cons] at hu
  rcases hu with rfl | rfl | rfl | rfl | rfl | rfl | hu
  ·rfl
  ·rfl
  ·rfl
  ·exact h1.one
  ·exact h2.one
  ·exact h3.one
  ·exact ih u hu

def IsTodos (w : World) (v : Value) (st : List Todo) : Prop := ∃ A cap xs, v = .slice A st.length cap ∧ st.length ≤ cap ∧ Cells6 w xs st ∧ (A = none → st = [] ∧ cap = 0) ∧ ∀ ad, A = some ad → ad.spot = none ∧ ∀ j u, xs[j]? = some u → w.cell? (ad.add j) = some u
theorem own_todos {w : World} {base : Nat} {E : TypeId} {v : Value} {xs : List Value} {st : List Todo} (h : w.ownsRow base E 6 v st.length xs) (hc : Cells6 w xs st) : IsTodos w v st := by
 have hcells := fun g => h.cells (g := g)
 rcases h.2 with ⟨rfl, h0⟩ | ⟨g, cap, cur, rfl, _, _, hn, _⟩
 ·exact ⟨none, 0, xs, by rw [h0], by omega, hc, fun _ => ⟨List.eq_nil_of_length_eq_zero h0, rfl⟩, fun ad e => by cases e⟩
 ·refine ⟨_, cap, xs, rfl, hn, hc, (fun e => by cases e), fun ad e => ?_⟩
  cases e
  exact ⟨rfl, hcells g rfl⟩
theorem IsTodos.keep {w w' : World} {v : Value} {st : List Todo} (h : IsTodos w v st) (hb : Below w.heap.size w w') : IsTodos w' v st := by
 obtain ⟨A, cap, xs, h1, h2, h3, h4, h5⟩ := h
 refine ⟨A, cap, xs, h1, h2, h3.keep hb, h4, fun ad e => ⟨(h5 ad e).1, fun j u hj => ?_⟩⟩
 obtain ⟨b, off, spot⟩ := ad
 have h6 := (h5 _ e).1
 simp only at h6
 subst h6
 have := (h5 _ e).2 j u hj
 rw [Go.WideShapes.add_plain] at this ⊢
 exact cell_keep this hb
theorem IsTodos.head {w : World} {A : Option Addr} {n cap : Nat} {t : Ty} {ns : List Str} {st : List Todo} (h : IsTodos w (.slice A n cap) ((t, ns) :: st)) :
  n = st.length + 1 ∧ n ≤ cap ∧ ∃ b off lv kv nv, A = some ⟨b, off, none⟩ ∧ w.cell? ⟨b, off, none⟩ = some (.int .i64 t.kind) ∧ w.cell? ⟨b, off + 1, none⟩ = some (.int .i64 t.sort) ∧ w.cell? ⟨b, off + 2, none⟩ = some (.string ⟨t.name.toArray⟩) ∧
   w.cell? ⟨b, off + 3, none⟩ = some lv ∧ w.cell? ⟨b, off + 4, none⟩ = some kv ∧ w.cell? ⟨b, off + 5, none⟩ = some nv ∧ IsStrs w lv t.labels ∧ IsTys w kv t.kids ∧ Names w nv ns ∧
   ∀ c, st.length ≤ c → IsTodos w (.slice (some ⟨b, off + 6, none⟩) st.length c) st := by
 obtain ⟨A', cap', xs, e, hle, hc, h0, h5⟩ := h
 injection e with e1 e2 e3
 subst e1 e2 e3
 simp only [List.length_cons] at hle ⊢
 refine ⟨trivial, hle, ?_⟩
 cases A with
 | none => exact absurd (h0 rfl).1 (by simp)
 | some ad =>
  obtain ⟨b, off, spot⟩ := ad
  obtain ⟨h6, h7⟩ := h5 _ rfl
  simp only at h6
  subst h6
  cases hc with
  | cons t ns lv kv nv xs ts h1 h2 h3 h =>
   have hcell : ∀ j u, (Value.int .i64 t.kind :: Value.int .i64 t.sort :: Value.string ⟨t.name.toArray⟩ :: lv :: kv :: nv :: xs)[j]? = some u → w.cell? ⟨b, off + j, none⟩ = some u := fun j u hj => by
    have := h7 j u hj
    rw [Go.WideShapes.add_plain] at this
    exact this
   refine ⟨b, off, lv, kv, nv, rfl, hcell 0 _ rfl, hcell 1 _ rfl, hcell 2 _ rfl, hcell 3 _ rfl, hcell 4 _ rfl, hcell 5 _ rfl, h1, h2, h3, fun c hcl => ⟨_, c, xs, rfl, hcl, h, (fun e => by cases e), fun ad e => ?_⟩⟩
   cases e
   refine ⟨rfl, fun j u hj => ?_⟩
   have := hcell (j + 6) u (by simpa using hj)
   rw [Go.WideShapes.add_plain, show off + 6 + j = off + (j + 6) by omega]
   exact this
theorem rt_todos : RowType Tryz.prog 124 123 6 104 := .mk' (z := .agg #[.int .i64 0, .int .i64 0, .string ⟨#[]⟩, .slice none 0 0, .slice none 0 0, .slice none 0 0]) Tryz.underlying124 (by kernel_rfl) rfl (by decide)
end Go.Proofs.YtpidjanngbaiiaaGreatDoor
