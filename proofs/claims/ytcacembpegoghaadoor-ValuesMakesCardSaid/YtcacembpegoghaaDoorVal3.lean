/-
  The reference's Value, Order, Length; values.Order with its comparisons.
-/
import Derived.Test.YtcacembpegoghaaDoorVal1
import Derived.Test.YtcacembpegoghaaDoorVal2
import Derived.Laws.StructEq
import Derived.Deep.RegionHeld3
import Derived.Deep.DrawnRows
namespace Go.Proofs.YtcacembpegoghaaDoor
open Go.RowKit Go.Proofs

/-- A value as the walk has it. -/
abbrev mkV (s n : Int) (t : List UInt8) : Value := .agg #[.int .i64 s, .int .i64 n, .string ⟨t.toArray⟩]

theorem validGo_letters : ∀ (n : Nat) (l : List UInt8), l.length ≤ n → Lib.validGoD n l = (lettersGo n l).isSome := by
  intro n
  induction n with
  | zero => intro l _; rfl
  | succ n ih =>
    intro l h
    unfold Lib.validGoD lettersGo
    by_cases he : l = []
    · simp [he]
    · have hw := Lib.decodeL_width l
      rw [if_neg he, if_neg he]
      by_cases hb : (Lib.decodeL l).1 = 65533 ∧ (Lib.decodeL l).2 = 1
      · rw [if_pos hb, if_pos ⟨hb.1, by omega⟩]; rfl
      · rw [if_neg hb, if_neg (fun h => hb ⟨h.1, by omega⟩), ih _ (by rw [List.length_drop]; omega)]
        simp
theorem valid_letters (l : List UInt8) : Lib.validD l = (letters l).isSome := validGo_letters _ _ (Nat.le_refl _)

set_option maxHeartbeats 400000 in
theorem refValue_any (s n : Int) (w : World) (t : List UInt8) (hs : t.length ≤ 9223372036854775807) (hT : Tabs w) :
    Calls Tryd.prog 13 #[mkV s n t] w fun e w' => e = .returned (.int .i64 (chk s n t)) ∧ Below w.heap.size w w' := by
  by_cases h3 : s = 3 ∧ n = 0
  · obtain ⟨rfl, rfl⟩ := h3
    by_cases hl : 100 < t.length
    · have hl' : (100 : Int) < (t.length : Int) := by omega
      go_enter Tryd.func13, Tryd.ntmps13
      go_wp2
      go_ret
      exact ⟨by simp [chk, hl], by go_grown⟩
    · have hl' : ¬ (100 : Int) < (t.length : Int) := by omega
      obtain ⟨o, ho⟩ : ∃ o, letters t = o := ⟨_, rfl⟩
      have hv := valid_letters t
      have hc : chk 3 0 t = if o.isSome = true then 0 else 1 := by simp [chk, hl, hv, ho]
      have HC := Lib.hid hc
      have hL := letters_any t (w.alloc (.cells #[.int .i64 3, .int .i64 0, .string ⟨t.toArray⟩] 23)) (by omega) (hT.below (by go_grown))
      rw [ho] at hL
      have HL := Lib.hid hL
      clear hL ho hv hc
      cases o with
      | none =>
        go_enter Tryd.func13, Tryd.ntmps13
        go_wp2_with (go_at_call 84; go_must (refine (HL.out).mono ?_; rintro e w1 ⟨hb, rfl⟩))
        go_ret
        exact ⟨by rw [HC.out]; rfl, step (by go_grown) hb (by simp)⟩
      | some rs =>
        go_enter Tryd.func13, Tryd.ntmps13
        go_wp2_with (go_at_call 84; go_must (refine (HL.out).mono ?_; rintro e w1 ⟨hb, v, rfl, hown⟩))
        go_ret
        exact ⟨by rw [HC.out]; rfl, step (by go_grown) hb (by simp)⟩
  · have hc : ¬ (s = 3 ∧ n = 0) := h3
    go_enter Tryd.func13, Tryd.ntmps13
    go_wp2_with fail
    all_goals (go_ret; refine ⟨?_, by go_grown⟩)
    all_goals (first | (simp [chk, *]; done) | (simp_all [chk]; done))

/-- Are two values the same, part by part? -/
def eqV (s n : Int) (t : List UInt8) (s' n' : Int) (t' : List UInt8) : Bool := decide (s = s' ∧ n = n' ∧ t = t')
theorem run_eqV (w : World) (s n : Int) (t : List UInt8) (s' n' : Int) (t' : List UInt8) :
    (binOp .eql 23 (mkV s n t) (mkV s' n' t')).run Tryd.prog w = .ok (.bool (eqV s n t s' n' t')) w := by
  have e : eqV s n t s' n' t' = (s == s' && (n == n' && t == t')) := by
    unfold eqV; rw [Bool.eq_iff_iff]; simp
  rw [e]
  go_simp
  by_cases h1 : s = s' <;> by_cases h2 : n = n' <;> by_cases h3 : t = t' <;> simp [h1, h2, h3]

/-- The order of two numbers, of two texts: -1, 0 or 1. -/
def cmpS (a b : List UInt8) : Int := if Op.bytesLess a b = true then -1 else if a = b then 0 else 1
theorem nan_int64 (x : Int) (w : World) : Calls Tryd.prog 170 #[.int .i64 x] w fun e w' => e = .returned (.bool false) ∧ w' = w := by
  go_enter Tryd.func170, Tryd.ntmps170
  go_wp2
  go_ret
  exact ⟨by simp, rfl⟩
theorem nan_string (x : List UInt8) (w : World) : Calls Tryd.prog 171 #[.string ⟨x.toArray⟩] w fun e w' => e = .returned (.bool false) ∧ w' = w := by
  go_enter Tryd.func171, Tryd.ntmps171
  go_wp2
  go_ret
  exact ⟨by simp, rfl⟩
theorem cmp_int64 (x y : Int) (w : World) : Calls Tryd.prog 88 #[.int .i64 x, .int .i64 y] w fun e w' => e = .returned (.int .i64 (Lib.compareInt x y)) ∧ w' = w := by
  go_enter Tryd.func88, Tryd.ntmps88
  go_wp2_with (go_at_call 170; refine (nan_int64 _ _).mono ?_; rintro e w' ⟨rfl, rfl⟩)
  all_goals (go_ret; refine ⟨?_, rfl⟩)
  all_goals (simp [Lib.compareInt, *] <;> omega)
theorem cmp_string (x y : List UInt8) (w : World) : Calls Tryd.prog 89 #[.string ⟨x.toArray⟩, .string ⟨y.toArray⟩] w fun e w' => e = .returned (.int .i64 (cmpS x y)) ∧ w' = w := by
  go_enter Tryd.func89, Tryd.ntmps89
  go_wp2_with (go_at_call 171; refine (nan_string _ _).mono ?_; rintro e w' ⟨rfl, rfl⟩)
  all_goals (go_ret; refine ⟨?_, rfl⟩)
  all_goals (first | (simp [cmpS, *]; done) | (simp_all [cmpS]; done))
theorem or_any (x y z : Int) (b : Nat) (w : World) (k0 : w.cell? ⟨b, 0, none⟩ = some (.int .i64 x)) (k1 : w.cell? ⟨b, 1, none⟩ = some (.int .i64 y)) (k2 : w.cell? ⟨b, 2, none⟩ = some (.int .i64 z)) :
    Calls Tryd.prog 86 #[.slice (some ⟨b, 0, none⟩) 3 3] w fun e w' => e = .returned (.int .i64 (if x ≠ 0 then x else if y ≠ 0 then y else z)) ∧ w' = w := by
  by_cases hx : x = 0
  · subst hx
    by_cases hy : y = 0
    · subst hy
      by_cases hz : z = 0
      · subst hz
        go_enter Tryd.func86, Tryd.ntmps86
        go_wp2
        go_rounds 4
        go_ret
        exact ⟨by simp, rfl⟩
      · have h1 : (z != 0) = true := by rw [bne_iff_ne]; exact hz
        go_enter Tryd.func86, Tryd.ntmps86
        go_wp2
        go_rounds 4
        go_ret
        exact ⟨by simp, rfl⟩
    · have h1 : (y != 0) = true := by rw [bne_iff_ne]; exact hy
      go_enter Tryd.func86, Tryd.ntmps86
      go_wp2
      go_rounds 4
      go_ret
      exact ⟨by simp, rfl⟩
  · have h1 : (x != 0) = true := by rw [bne_iff_ne]; exact hx
    go_enter Tryd.func86, Tryd.ntmps86
    go_wp2
    go_rounds 4
    go_ret
    exact ⟨by simp, rfl⟩
end Go.Proofs.YtcacembpegoghaaDoor
