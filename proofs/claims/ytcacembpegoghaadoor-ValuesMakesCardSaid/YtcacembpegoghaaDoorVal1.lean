import Derived.Test.YtcacembpegoghaaDoorBase
namespace Go.Proofs.YtcacembpegoghaaDoor
open Go.RowKit Go.Proofs

/-- What is wrong with a value (P3). -/
def chk (s n : Int) (t : List UInt8) : Int :=
  if s = 3 ∧ n = 0 then (if 100 < t.length then 2 else if Lib.validD t = true then 0 else 1)
  else if t = [] ∧ (s = 1 ∨ (s = 2 ∧ (n = 0 ∨ n = 1))) then 0 else 1

theorem valid_any (s : List UInt8) (w : World) (hs : s.length ≤ 9223372036854775807) (hT : Tabs w) :
    Calls Tryd.prog 138 #[.string ⟨s.toArray⟩] w fun e w' => e = .returned (.bool (Lib.validD s)) ∧ Below w.heap.size w w' :=
  Any.utf8_ValidString Tryd.lays196 ⟨s.toArray⟩ w (by rw [Lib.size_eq]; exact hs) hT

set_option maxHeartbeats 400000 in
theorem check_any (s n : Int) (w : World) (t : List UInt8) (hs : t.length ≤ 9223372036854775807) (hT : Tabs w) :
    Calls Tryd.prog 58 #[.agg #[.int .i64 s, .int .i64 n, .string ⟨t.toArray⟩]] w fun e w' => e = .returned (.int .i64 (chk s n t)) ∧ Below w.heap.size w w' := by
  by_cases h3 : s = 3 ∧ n = 0
  · obtain ⟨rfl, rfl⟩ := h3
    by_cases hl : 100 < t.length
    · have hl' : (100 : Int) < (t.length : Int) := by omega
      go_enter Tryd.func58, Tryd.ntmps58
      go_wp2
      go_ret
      exact ⟨by simp [chk, hl], by go_grown⟩
    · have hl' : ¬ (100 : Int) < (t.length : Int) := by omega
      go_enter Tryd.func58, Tryd.ntmps58
      go_wp2_with (go_at_call 138; go_must (refine (valid_any t _ hs (hT.below (by go_grown))).mono ?_; rintro e w1 ⟨rfl, hb⟩))
      all_goals (go_ret; refine ⟨?_, step (by go_grown) hb (by simp)⟩)
      all_goals (first | (simp [chk, *]; done) | (simp_all [chk]; done))
  · have hc : ¬ (s = 3 ∧ n = 0) := h3
    go_enter Tryd.func58, Tryd.ntmps58
    go_wp2_with fail
    all_goals (go_ret; refine ⟨?_, by go_grown⟩)
    all_goals (first | (simp [chk, *]; done) | (simp_all [chk]; done))
end Go.Proofs.YtcacembpegoghaaDoor
