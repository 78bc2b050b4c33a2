/-
  The reference's part, kind by kind.
-/
import Derived.Test.YtcacembpegoghaaDoorTyS
namespace Go.Proofs.YtcacembpegoghaaDoor
open Go.RowKit Go.Proofs
set_option maxRecDepth 100000

set_option maxHeartbeats 4000000 in
theorem part_1 (s : Int) (n : Str) (ls : List Str) (kids : Nat) (lv : Value) (A' : Option Addr) (cap' : Nat) (w : World) (hn : n.length ≤ 9223372036854775807) (hl : ls.length ≤ 9223372036854775807) (hs : ∀ s ∈ ls, s.length ≤ 9223372036854775807) (hk : kids ≤ 9223372036854775807) (hv : IsStrs w lv ls) :
    Calls Tryd.prog 112 #[.agg #[.int .i64 1, .int .i64 s, .string ⟨n.toArray⟩, lv, .slice A' kids cap']] w fun e w' => e = .returned (.bool (shapeOk 1 s n ls kids)) ∧ Below w.heap.size w w' := by
  have HV := Lib.hid hv
  obtain ⟨A, cap, rfl, -, -⟩ := hv
  obtain ⟨ANS, hA⟩ : ∃ x, shapeOk 1 s n ls kids = x := ⟨_, rfl⟩
  rw [hA]
  have HS := Lib.hid hs; clear hs
  obtain ⟨L, hL⟩ : ∃ L, ls.length = L := ⟨_, rfl⟩
  have HL := Lib.hid hL
  obtain ⟨B, hB⟩ : ∃ x, labelsOk ls = x := ⟨_, rfl⟩
  have HB := Lib.hid hB
  unfold shapeOk at hA
  rw [hL, hB] at hA
  have HA := Lib.hid hA
  rw [hL] at hl HV ⊢; clear hL hA hB
  go_enter Tryd.func112, Tryd.ntmps112
  go_wp2_with fail
  all_goals
    go_ret
    refine ⟨ret_bool' ?_, by go_grown⟩
    rw [← HA.out]
    first | (simp [shapeN, *]; done) | (simp [shapeN, *]; omega) | (rw [Bool.eq_iff_iff]; simp [shapeN, *]; done) | (rw [Bool.eq_iff_iff]; simp [shapeN, *]; omega) | (rw [sum_zero hl hk]; simp [shapeN, *]; done)
set_option maxHeartbeats 4000000 in
theorem part_2 (s : Int) (n : Str) (ls : List Str) (kids : Nat) (lv : Value) (A' : Option Addr) (cap' : Nat) (w : World) (hn : n.length ≤ 9223372036854775807) (hl : ls.length ≤ 9223372036854775807) (hs : ∀ s ∈ ls, s.length ≤ 9223372036854775807) (hk : kids ≤ 9223372036854775807) (hv : IsStrs w lv ls) :
    Calls Tryd.prog 112 #[.agg #[.int .i64 2, .int .i64 s, .string ⟨n.toArray⟩, lv, .slice A' kids cap']] w fun e w' => e = .returned (.bool (shapeOk 2 s n ls kids)) ∧ Below w.heap.size w w' := by
  have HV := Lib.hid hv
  obtain ⟨A, cap, rfl, -, -⟩ := hv
  obtain ⟨ANS, hA⟩ : ∃ x, shapeOk 2 s n ls kids = x := ⟨_, rfl⟩
  rw [hA]
  have HS := Lib.hid hs; clear hs
  obtain ⟨L, hL⟩ : ∃ L, ls.length = L := ⟨_, rfl⟩
  have HL := Lib.hid hL
  obtain ⟨B, hB⟩ : ∃ x, labelsOk ls = x := ⟨_, rfl⟩
  have HB := Lib.hid hB
  unfold shapeOk at hA
  rw [hL, hB] at hA
  have HA := Lib.hid hA
  rw [hL] at hl HV ⊢; clear hL hA hB
  go_enter Tryd.func112, Tryd.ntmps112
  go_wp2_with fail
  all_goals
    go_ret
    refine ⟨ret_bool' ?_, by go_grown⟩
    rw [← HA.out]
    first | (simp [shapeN, *]; done) | (simp [shapeN, *]; omega) | (rw [Bool.eq_iff_iff]; simp [shapeN, *]; done) | (rw [Bool.eq_iff_iff]; simp [shapeN, *]; omega) | (rw [sum_zero hl hk]; simp [shapeN, *]; done)
set_option maxHeartbeats 4000000 in
theorem part_3 (s : Int) (n : Str) (ls : List Str) (kids : Nat) (lv : Value) (A' : Option Addr) (cap' : Nat) (w : World) (hn : n.length ≤ 9223372036854775807) (hl : ls.length ≤ 9223372036854775807) (hs : ∀ s ∈ ls, s.length ≤ 9223372036854775807) (hk : kids ≤ 9223372036854775807) (hv : IsStrs w lv ls) :
    Calls Tryd.prog 112 #[.agg #[.int .i64 3, .int .i64 s, .string ⟨n.toArray⟩, lv, .slice A' kids cap']] w fun e w' => e = .returned (.bool (shapeOk 3 s n ls kids)) ∧ Below w.heap.size w w' := by
  have HV := Lib.hid hv
  obtain ⟨A, cap, rfl, -, -⟩ := hv
  obtain ⟨ANS, hA⟩ : ∃ x, shapeOk 3 s n ls kids = x := ⟨_, rfl⟩
  rw [hA]
  have HS := Lib.hid hs; clear hs
  obtain ⟨L, hL⟩ : ∃ L, ls.length = L := ⟨_, rfl⟩
  have HL := Lib.hid hL
  obtain ⟨B, hB⟩ : ∃ x, labelsOk ls = x := ⟨_, rfl⟩
  have HB := Lib.hid hB
  unfold shapeOk at hA
  rw [hL, hB] at hA
  have HA := Lib.hid hA
  rw [hL] at hl HV ⊢; clear hL hA hB
  go_enter Tryd.func112, Tryd.ntmps112
  go_wp2_with fail
  all_goals
    go_ret
    refine ⟨ret_bool' ?_, by go_grown⟩
    rw [← HA.out]
    first | (simp [shapeN, *]; done) | (simp [shapeN, *]; omega) | (rw [Bool.eq_iff_iff]; simp [shapeN, *]; done) | (rw [Bool.eq_iff_iff]; simp [shapeN, *]; omega) | (rw [sum_zero hl hk]; simp [shapeN, *]; done)
set_option maxHeartbeats 4000000 in
theorem part_4 (s : Int) (n : Str) (ls : List Str) (kids : Nat) (lv : Value) (A' : Option Addr) (cap' : Nat) (w : World) (hn : n.length ≤ 9223372036854775807) (hl : ls.length ≤ 9223372036854775807) (hs : ∀ s ∈ ls, s.length ≤ 9223372036854775807) (hk : kids ≤ 9223372036854775807) (hv : IsStrs w lv ls) :
    Calls Tryd.prog 112 #[.agg #[.int .i64 4, .int .i64 s, .string ⟨n.toArray⟩, lv, .slice A' kids cap']] w fun e w' => e = .returned (.bool (shapeOk 4 s n ls kids)) ∧ Below w.heap.size w w' := by
  have HV := Lib.hid hv
  obtain ⟨A, cap, rfl, -, -⟩ := hv
  obtain ⟨ANS, hA⟩ : ∃ x, shapeOk 4 s n ls kids = x := ⟨_, rfl⟩
  rw [hA]
  have HS := Lib.hid hs; clear hs
  obtain ⟨L, hL⟩ : ∃ L, ls.length = L := ⟨_, rfl⟩
  have HL := Lib.hid hL
  obtain ⟨B, hB⟩ : ∃ x, labelsOk ls = x := ⟨_, rfl⟩
  have HB := Lib.hid hB
  unfold shapeOk at hA
  rw [hL, hB] at hA
  have HA := Lib.hid hA
  rw [hL] at hl HV ⊢; clear hL hA hB
  go_enter Tryd.func112, Tryd.ntmps112
  go_wp2_with fail
  all_goals
    go_ret
    refine ⟨ret_bool' ?_, by go_grown⟩
    rw [← HA.out]
    first | (simp [shapeN, *]; done) | (simp [shapeN, *]; omega) | (rw [Bool.eq_iff_iff]; simp [shapeN, *]; done) | (rw [Bool.eq_iff_iff]; simp [shapeN, *]; omega) | (rw [sum_zero hl hk]; simp [shapeN, *]; done)
set_option maxHeartbeats 4000000 in
theorem part_5 (s : Int) (n : Str) (ls : List Str) (kids : Nat) (lv : Value) (A' : Option Addr) (cap' : Nat) (w : World) (hn : n.length ≤ 9223372036854775807) (hl : ls.length ≤ 9223372036854775807) (hs : ∀ s ∈ ls, s.length ≤ 9223372036854775807) (hk : kids ≤ 9223372036854775807) (hv : IsStrs w lv ls) :
    Calls Tryd.prog 112 #[.agg #[.int .i64 5, .int .i64 s, .string ⟨n.toArray⟩, lv, .slice A' kids cap']] w fun e w' => e = .returned (.bool (shapeOk 5 s n ls kids)) ∧ Below w.heap.size w w' := by
  have HV := Lib.hid hv
  obtain ⟨A, cap, rfl, -, -⟩ := hv
  obtain ⟨ANS, hA⟩ : ∃ x, shapeOk 5 s n ls kids = x := ⟨_, rfl⟩
  rw [hA]
  have HS := Lib.hid hs; clear hs
  obtain ⟨L, hL⟩ : ∃ L, ls.length = L := ⟨_, rfl⟩
  have HL := Lib.hid hL
  obtain ⟨B, hB⟩ : ∃ x, labelsOk ls = x := ⟨_, rfl⟩
  have HB := Lib.hid hB
  unfold shapeOk at hA
  rw [hL, hB] at hA
  have HA := Lib.hid hA
  rw [hL] at hl HV ⊢; clear hL hA hB
  go_enter Tryd.func112, Tryd.ntmps112
  go_wp2_with fail
  all_goals
    go_ret
    refine ⟨ret_bool' ?_, by go_grown⟩
    rw [← HA.out]
    first | (simp [shapeN, *]; done) | (simp [shapeN, *]; omega) | (rw [Bool.eq_iff_iff]; simp [shapeN, *]; done) | (rw [Bool.eq_iff_iff]; simp [shapeN, *]; omega) | (rw [sum_zero hl hk]; simp [shapeN, *]; done)
set_option maxHeartbeats 4000000 in
theorem part_6 (s : Int) (n : Str) (ls : List Str) (kids : Nat) (lv : Value) (A' : Option Addr) (cap' : Nat) (w : World) (hn : n.length ≤ 9223372036854775807) (hl : ls.length ≤ 9223372036854775807) (hs : ∀ s ∈ ls, s.length ≤ 9223372036854775807) (hk : kids ≤ 9223372036854775807) (hv : IsStrs w lv ls) :
    Calls Tryd.prog 112 #[.agg #[.int .i64 6, .int .i64 s, .string ⟨n.toArray⟩, lv, .slice A' kids cap']] w fun e w' => e = .returned (.bool (shapeOk 6 s n ls kids)) ∧ Below w.heap.size w w' := by
  have HV := Lib.hid hv
  obtain ⟨A, cap, rfl, -, -⟩ := hv
  obtain ⟨ANS, hA⟩ : ∃ x, shapeOk 6 s n ls kids = x := ⟨_, rfl⟩
  rw [hA]
  have HS := Lib.hid hs; clear hs
  obtain ⟨L, hL⟩ : ∃ L, ls.length = L := ⟨_, rfl⟩
  have HL := Lib.hid hL
  obtain ⟨B, hB⟩ : ∃ x, labelsOk ls = x := ⟨_, rfl⟩
  have HB := Lib.hid hB
  unfold shapeOk at hA
  rw [hL, hB] at hA
  have HA := Lib.hid hA
  rw [hL] at hl HV ⊢; clear hL hA hB
  cases B
  all_goals
    go_enter Tryd.func112, Tryd.ntmps112
    go_wp2_with (go_at_call 197; go_must (refine (refLabels_any _ ls _ (HV.out.keep (by go_grown)) HS.out (by rw [HL.out]; exact hl)).mono ?_; rw [HB.out]; rintro e w1 ⟨rfl, hb1⟩; obtain ⟨hc1, hf1, hz1⟩ := bcell hb1))
    all_goals
      go_ret
      refine ⟨ret_bool' ?_, by first | (exact chain (by go_grown) hb1) | go_grown⟩
      rw [← HA.out]
      first | (simp [shapeN, *]; done) | (simp [shapeN, *]; omega) | (rw [Bool.eq_iff_iff]; simp [shapeN, *]; done) | (rw [Bool.eq_iff_iff]; simp [shapeN, *]; omega) | (rw [sum_zero hl hk]; simp [shapeN, *]; done)
set_option maxHeartbeats 4000000 in
theorem part_7 (s : Int) (n : Str) (ls : List Str) (kids : Nat) (lv : Value) (A' : Option Addr) (cap' : Nat) (w : World) (hn : n.length ≤ 9223372036854775807) (hl : ls.length ≤ 9223372036854775807) (hs : ∀ s ∈ ls, s.length ≤ 9223372036854775807) (hk : kids ≤ 9223372036854775807) (hv : IsStrs w lv ls) :
    Calls Tryd.prog 112 #[.agg #[.int .i64 7, .int .i64 s, .string ⟨n.toArray⟩, lv, .slice A' kids cap']] w fun e w' => e = .returned (.bool (shapeOk 7 s n ls kids)) ∧ Below w.heap.size w w' := by
  have HV := Lib.hid hv
  obtain ⟨A, cap, rfl, -, -⟩ := hv
  obtain ⟨ANS, hA⟩ : ∃ x, shapeOk 7 s n ls kids = x := ⟨_, rfl⟩
  rw [hA]
  have HS := Lib.hid hs; clear hs
  obtain ⟨L, hL⟩ : ∃ L, ls.length = L := ⟨_, rfl⟩
  have HL := Lib.hid hL
  obtain ⟨B, hB⟩ : ∃ x, labelsOk ls = x := ⟨_, rfl⟩
  have HB := Lib.hid hB
  unfold shapeOk at hA
  rw [hL, hB] at hA
  have HA := Lib.hid hA
  rw [hL] at hl HV ⊢; clear hL hA hB
  cases B
  all_goals
    go_enter Tryd.func112, Tryd.ntmps112
    go_wp2_with (go_at_call 197; go_must (refine (refLabels_any _ ls _ (HV.out.keep (by go_grown)) HS.out (by rw [HL.out]; exact hl)).mono ?_; rw [HB.out]; rintro e w1 ⟨rfl, hb1⟩; obtain ⟨hc1, hf1, hz1⟩ := bcell hb1))
    all_goals
      go_ret
      refine ⟨ret_bool' ?_, by first | (exact chain (by go_grown) hb1) | go_grown⟩
      rw [← HA.out]
      first | (simp [shapeN, *]; done) | (simp [shapeN, *]; omega) | (rw [Bool.eq_iff_iff]; simp [shapeN, *]; done) | (rw [Bool.eq_iff_iff]; simp [shapeN, *]; omega) | (rw [sum_zero hl hk]; simp [shapeN, *]; done)
set_option maxHeartbeats 4000000 in
theorem part_8 (s : Int) (n : Str) (ls : List Str) (kids : Nat) (lv : Value) (A' : Option Addr) (cap' : Nat) (w : World) (hn : n.length ≤ 9223372036854775807) (hl : ls.length ≤ 9223372036854775807) (hs : ∀ s ∈ ls, s.length ≤ 9223372036854775807) (hk : kids ≤ 9223372036854775807) (hv : IsStrs w lv ls) :
    Calls Tryd.prog 112 #[.agg #[.int .i64 8, .int .i64 s, .string ⟨n.toArray⟩, lv, .slice A' kids cap']] w fun e w' => e = .returned (.bool (shapeOk 8 s n ls kids)) ∧ Below w.heap.size w w' := by
  have HV := Lib.hid hv
  obtain ⟨A, cap, rfl, -, -⟩ := hv
  obtain ⟨ANS, hA⟩ : ∃ x, shapeOk 8 s n ls kids = x := ⟨_, rfl⟩
  rw [hA]
  have HS := Lib.hid hs; clear hs
  obtain ⟨L, hL⟩ : ∃ L, ls.length = L := ⟨_, rfl⟩
  have HL := Lib.hid hL
  obtain ⟨B, hB⟩ : ∃ x, labelsOk ls = x := ⟨_, rfl⟩
  have HB := Lib.hid hB
  unfold shapeOk at hA
  rw [hL, hB] at hA
  have HA := Lib.hid hA
  rw [hL] at hl HV ⊢; clear hL hA hB
  obtain ⟨C, hC⟩ : ∃ x, isVar n = x := ⟨_, rfl⟩
  have HC := Lib.hid hC; clear hC
  cases C
  all_goals
    go_enter Tryd.func112, Tryd.ntmps112
    go_wp2_with (go_at_call 34; go_must (refine (refIsVar_any n _ hn).mono ?_; rw [HC.out]; rintro e w1 ⟨rfl, hb1⟩; obtain ⟨hc1, hf1, hz1⟩ := bcell hb1))
    all_goals
      go_ret
      refine ⟨ret_bool' ?_, by first | (exact chain (by go_grown) hb1) | go_grown⟩
      rw [← HA.out]
      have hC := HC.out
      first | (simp [shapeN, *]; done) | (simp [shapeN, *]; omega) | (rw [Bool.eq_iff_iff]; simp [shapeN, *]; done) | (rw [Bool.eq_iff_iff]; simp [shapeN, *]; omega) | (rw [sum_zero hl hk]; simp [shapeN, *]; done)
set_option maxHeartbeats 4000000 in
theorem part_9 (s : Int) (n : Str) (ls : List Str) (kids : Nat) (lv : Value) (A' : Option Addr) (cap' : Nat) (w : World) (hn : n.length ≤ 9223372036854775807) (hl : ls.length ≤ 9223372036854775807) (hs : ∀ s ∈ ls, s.length ≤ 9223372036854775807) (hk : kids ≤ 9223372036854775807) (hv : IsStrs w lv ls) :
    Calls Tryd.prog 112 #[.agg #[.int .i64 9, .int .i64 s, .string ⟨n.toArray⟩, lv, .slice A' kids cap']] w fun e w' => e = .returned (.bool (shapeOk 9 s n ls kids)) ∧ Below w.heap.size w w' := by
  have HV := Lib.hid hv
  obtain ⟨A, cap, rfl, -, -⟩ := hv
  obtain ⟨ANS, hA⟩ : ∃ x, shapeOk 9 s n ls kids = x := ⟨_, rfl⟩
  rw [hA]
  have HS := Lib.hid hs; clear hs
  obtain ⟨L, hL⟩ : ∃ L, ls.length = L := ⟨_, rfl⟩
  have HL := Lib.hid hL
  obtain ⟨B, hB⟩ : ∃ x, labelsOk ls = x := ⟨_, rfl⟩
  have HB := Lib.hid hB
  unfold shapeOk at hA
  rw [hL, hB] at hA
  have HA := Lib.hid hA
  rw [hL] at hl HV ⊢; clear hL hA hB
  obtain ⟨C, hC⟩ : ∃ x, isVar n = x := ⟨_, rfl⟩
  have HC := Lib.hid hC; clear hC
  cases C
  all_goals
    go_enter Tryd.func112, Tryd.ntmps112
    go_wp2_with (go_at_call 34; go_must (refine (refIsVar_any n _ hn).mono ?_; rw [HC.out]; rintro e w1 ⟨rfl, hb1⟩; obtain ⟨hc1, hf1, hz1⟩ := bcell hb1))
    all_goals
      go_ret
      refine ⟨ret_bool' ?_, by first | (exact chain (by go_grown) hb1) | go_grown⟩
      rw [← HA.out]
      have hC := HC.out
      first | (simp [shapeN, *]; done) | (simp [shapeN, *]; omega) | (rw [Bool.eq_iff_iff]; simp [shapeN, *]; done) | (rw [Bool.eq_iff_iff]; simp [shapeN, *]; omega) | (rw [sum_zero hl hk]; simp [shapeN, *]; done)
set_option maxHeartbeats 4000000 in
theorem part_o (k : Int) (h1 : k ≠ 1) (h2 : k ≠ 2) (h3 : k ≠ 3) (h4 : k ≠ 4) (h5 : k ≠ 5) (h6 : k ≠ 6) (h7 : k ≠ 7) (h8 : k ≠ 8) (h9 : k ≠ 9) (s : Int) (n : Str) (ls : List Str) (kids : Nat) (lv : Value) (A' : Option Addr) (cap' : Nat) (w : World) (hn : n.length ≤ 9223372036854775807) (hl : ls.length ≤ 9223372036854775807) (hs : ∀ s ∈ ls, s.length ≤ 9223372036854775807) (hk : kids ≤ 9223372036854775807) (hv : IsStrs w lv ls) :
    Calls Tryd.prog 112 #[.agg #[.int .i64 k, .int .i64 s, .string ⟨n.toArray⟩, lv, .slice A' kids cap']] w fun e w' => e = .returned (.bool (shapeOk k s n ls kids)) ∧ Below w.heap.size w w' := by
  have HV := Lib.hid hv
  obtain ⟨A, cap, rfl, -, -⟩ := hv
  obtain ⟨ANS, hA⟩ : ∃ x, shapeOk k s n ls kids = x := ⟨_, rfl⟩
  rw [hA]
  have HS := Lib.hid hs; clear hs
  obtain ⟨L, hL⟩ : ∃ L, ls.length = L := ⟨_, rfl⟩
  have HL := Lib.hid hL
  obtain ⟨B, hB⟩ : ∃ x, labelsOk ls = x := ⟨_, rfl⟩
  have HB := Lib.hid hB
  unfold shapeOk at hA
  rw [hL, hB] at hA
  have HA := Lib.hid hA
  rw [hL] at hl HV ⊢; clear hL hA hB
  go_enter Tryd.func112, Tryd.ntmps112
  go_wp2_with fail
  all_goals
    go_ret
    refine ⟨ret_bool' ?_, by go_grown⟩
    rw [← HA.out]
    first | (simp [shapeN, *]; done) | (simp [shapeN, *]; omega) | (rw [Bool.eq_iff_iff]; simp [shapeN, *]; done) | (rw [Bool.eq_iff_iff]; simp [shapeN, *]; omega) | (rw [sum_zero hl hk]; simp [shapeN, *]; done)
theorem shaped_any (t : Ty) (v : Value) (w : World) (hv : IsTy w v t) (hf : Fit t) :
    Calls Tryd.prog 199 #[v] w fun e w' => e = .returned (.bool (shapeOk t.kind t.sort t.name t.labels t.kids.length)) ∧ Below w.heap.size w w' := by
  obtain ⟨lv, kv, rfl, h1, A, cap, rfl, -, -⟩ := hv
  obtain ⟨f1, f2, f3, f4, -⟩ := hf.parts
  unfold maxLen at f1 f2 f3 f4
  obtain ⟨k, s, n, ls, ks⟩ := t
  simp only [Ty.kind, Ty.sort, Ty.name, Ty.labels, Ty.kids] at *
  by_cases h : k = 1
  · subst h; exact shaped_1 s n ls ks.length lv A cap w f1 f2 f3 f4 h1
  by_cases h2 : k = 2
  · subst h2; exact shaped_2 s n ls ks.length lv A cap w f1 f2 f3 f4 h1
  by_cases h3 : k = 3
  · subst h3; exact shaped_3 s n ls ks.length lv A cap w f1 f2 f3 f4 h1
  by_cases h4 : k = 4
  · subst h4; exact shaped_4 s n ls ks.length lv A cap w f1 f2 f3 f4 h1
  by_cases h5 : k = 5
  · subst h5; exact shaped_5 s n ls ks.length lv A cap w f1 f2 f3 f4 h1
  by_cases h6 : k = 6
  · subst h6; exact shaped_6 s n ls ks.length lv A cap w f1 f2 f3 f4 h1
  by_cases h7 : k = 7
  · subst h7; exact shaped_7 s n ls ks.length lv A cap w f1 f2 f3 f4 h1
  by_cases h8 : k = 8
  · subst h8; exact shaped_8 s n ls ks.length lv A cap w f1 f2 f3 f4 h1
  by_cases h9 : k = 9
  · subst h9; exact shaped_9 s n ls ks.length lv A cap w f1 f2 f3 f4 h1
  exact shaped_o k h h2 h3 h4 h5 h6 h7 h8 h9 s n ls ks.length lv A cap w f1 f2 f3 f4 h1

theorem part_any (t : Ty) (v : Value) (w : World) (hv : IsTy w v t) (hf : Fit t) :
    Calls Tryd.prog 112 #[v] w fun e w' => e = .returned (.bool (shapeOk t.kind t.sort t.name t.labels t.kids.length)) ∧ Below w.heap.size w w' := by
  obtain ⟨lv, kv, rfl, h1, A, cap, rfl, -, -⟩ := hv
  obtain ⟨f1, f2, f3, f4, -⟩ := hf.parts
  unfold maxLen at f1 f2 f3 f4
  obtain ⟨k, s, n, ls, ks⟩ := t
  simp only [Ty.kind, Ty.sort, Ty.name, Ty.labels, Ty.kids] at *
  by_cases h : k = 1
  · subst h; exact part_1 s n ls ks.length lv A cap w f1 f2 f3 f4 h1
  by_cases h2 : k = 2
  · subst h2; exact part_2 s n ls ks.length lv A cap w f1 f2 f3 f4 h1
  by_cases h3 : k = 3
  · subst h3; exact part_3 s n ls ks.length lv A cap w f1 f2 f3 f4 h1
  by_cases h4 : k = 4
  · subst h4; exact part_4 s n ls ks.length lv A cap w f1 f2 f3 f4 h1
  by_cases h5 : k = 5
  · subst h5; exact part_5 s n ls ks.length lv A cap w f1 f2 f3 f4 h1
  by_cases h6 : k = 6
  · subst h6; exact part_6 s n ls ks.length lv A cap w f1 f2 f3 f4 h1
  by_cases h7 : k = 7
  · subst h7; exact part_7 s n ls ks.length lv A cap w f1 f2 f3 f4 h1
  by_cases h8 : k = 8
  · subst h8; exact part_8 s n ls ks.length lv A cap w f1 f2 f3 f4 h1
  by_cases h9 : k = 9
  · subst h9; exact part_9 s n ls ks.length lv A cap w f1 f2 f3 f4 h1
  exact part_o k h h2 h3 h4 h5 h6 h7 h8 h9 s n ls ks.length lv A cap w f1 f2 f3 f4 h1

end Go.Proofs.YtcacembpegoghaaDoor
