/-
  The reference's Order; the law's own comparisons.
-/
import Derived.Test.YtcacembpegoghaaDoorVal10
namespace Go.Proofs.YtcacembpegoghaaDoor
open Go.RowKit Go.Proofs

theorem less_irrefl : ∀ t : List UInt8, Op.bytesLess t t = false := by
  intro t
  induction t with
  | nil => rfl
  | cons a t ih => simp [Op.bytesLess, ih]

set_option maxHeartbeats 1000000 in
theorem refOrder_any (s n s' n' : Int) (t t' : List UInt8) (w : World) :
    Calls Tryd.prog 14 #[mkV s n t, mkV s' n' t'] w fun e w' => e = .returned (.int .i64 (ordV s n t s' n' t')) ∧ Below w.heap.size w w' := by
  by_cases h1 : s = s'
  · subst h1
    by_cases h2 : n = n'
    · subst h2
      by_cases h3 : t = t'
      · subst h3
        have ho : ordV s n t s n t = 0 := by simp [ordV, Lib.compareInt, cmpS, less_irrefl]
        have HO := Lib.hid ho; clear ho
        go_enter Tryd.func14, Tryd.ntmps14
        go_wp2_with fail
        go_ret
        exact ⟨by rw [HO.out]; rfl, by go_grown⟩
      · have h3' : (t == t') = false := by rw [beq_eq_false_iff_ne]; exact h3
        obtain ⟨x, hx⟩ : ∃ x, Op.bytesLess t t' = x := ⟨_, rfl⟩
        have ho : ordV s n t s n t' = if x = true then -1 else 1 := by simp [ordV, Lib.compareInt, cmpS, h3, hx]
        have HO := Lib.hid ho; clear ho
        cases x with
        | true =>
          go_enter Tryd.func14, Tryd.ntmps14
          go_wp2_with fail
          go_ret
          exact ⟨by rw [HO.out]; rfl, by go_grown⟩
        | false =>
          go_enter Tryd.func14, Tryd.ntmps14
          go_wp2_with fail
          go_ret
          exact ⟨by rw [HO.out]; rfl, by go_grown⟩
    · by_cases h3 : n < n'
      · have ho : ordV s n t s n' t' = -1 := by simp [ordV, Lib.compareInt, h3]
        have HO := Lib.hid ho; clear ho
        go_enter Tryd.func14, Tryd.ntmps14
        go_wp2_with fail
        go_ret
        exact ⟨by rw [HO.out]; rfl, by go_grown⟩
      · have ho : ordV s n t s n' t' = 1 := by simp [ordV, Lib.compareInt, h3, show n' < n by omega]
        have HO := Lib.hid ho; clear ho
        go_enter Tryd.func14, Tryd.ntmps14
        go_wp2_with fail
        go_ret
        exact ⟨by rw [HO.out]; rfl, by go_grown⟩
  · by_cases h3 : s < s'
    · have ho : ordV s n t s' n' t' = -1 := by simp [ordV, Lib.compareInt, h3]
      have HO := Lib.hid ho; clear ho
      go_enter Tryd.func14, Tryd.ntmps14
      go_wp2_with fail
      go_ret
      exact ⟨by rw [HO.out]; rfl, by go_grown⟩
    · have ho : ordV s n t s' n' t' = 1 := by simp [ordV, Lib.compareInt, h3, show s' < s by omega]
      have HO := Lib.hid ho; clear ho
      go_enter Tryd.func14, Tryd.ntmps14
      go_wp2_with fail
      go_ret
      exact ⟨by rw [HO.out]; rfl, by go_grown⟩

/-- one: at equal answers it says true. -/
theorem oneInt_any (a f : Int) (want : Int) (w : World) (h : a = if f ≠ 0 then 0 else want) :
    Calls Tryd.prog 22 #[.int .i64 a, .int .i64 f, .int .i64 want, .int .i64 f] w fun e w' => e = .returned (.bool true) ∧ w' = w := by
  by_cases hf : f = 0
  · subst hf
    simp at h
    subst h
    go_enter Tryd.func22, Tryd.ntmps22
    go_wp2
    go_ret
    exact ⟨rfl, rfl⟩
  · rw [if_pos hf] at h
    subst h
    have h1 : (f != 0) = true := by rw [bne_iff_ne]; exact hf
    go_enter Tryd.func22, Tryd.ntmps22
    go_wp2
    go_ret
    exact ⟨rfl, rfl⟩
theorem oneValue_ok (s n : Int) (t : List UInt8) (w : World) :
    Calls Tryd.prog 23 #[mkV s n t, .int .i64 0, mkV s n t, .int .i64 0] w fun e w' => e = .returned (.bool true) ∧ Below w.heap.size w w' := by
  go_enter Tryd.func23, Tryd.ntmps23
  go_wp2
  go_ret
  exact ⟨rfl, by go_grown⟩
theorem oneValue_bad (f s n : Int) (t : List UInt8) (w : World) (hf : f ≠ 0) :
    Calls Tryd.prog 23 #[mkV 0 0 [], .int .i64 f, mkV s n t, .int .i64 f] w fun e w' => e = .returned (.bool true) ∧ Below w.heap.size w w' := by
  have h1 : (f != 0) = true := by rw [bne_iff_ne]; exact hf
  go_enter Tryd.func23, Tryd.ntmps23
  go_wp2
  go_ret
  exact ⟨rfl, by go_grown⟩
end Go.Proofs.YtcacembpegoghaaDoor
