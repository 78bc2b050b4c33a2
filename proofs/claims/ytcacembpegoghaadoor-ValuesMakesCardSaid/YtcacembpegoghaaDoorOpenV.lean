/-
  Values that come in, opened; a world in which utf8's tables lie.
-/
import Derived.Test.YtcacembpegoghaaDoorVal3
import Derived.Test.YtcacembpegoghaaDoorLaw
import Derived.MakeChecks
namespace Go.Proofs.YtcacembpegoghaaDoor
open Go.ChangeShapes Go.WideShapes Go.ChangeAt Go.RowKit Go.Joins Go.Lib

set_option maxRecDepth 100000
theorem cells23 : Tryd.prog.cellsOf 23 = 3 := by kernel_rfl
section
variable {H : Type} {enc : TypeId × Value → H} {W : World}
/-- A value that came in. -/
theorem open_value {r : Reach} {b0 : Nat} {v : Value} {d : DataW H} {p : List MemPlace} (hv : Value.okWide Tryd.prog W r b0 23 v) (h : DataW.Trod enc Tryd.prog W 0 (fun _ => true) true 23 v d p) :
    ∃ (s n : Int) (t : List UInt8), v = mkV s n t ∧ t.length ≤ maxLen := by
  obtain ⟨v0, v1, v2, y0, y1, y2, m, rfl, rfl, rfl, h0, h1, h2⟩ := open_agg3 Tryd.underlying23 (by kernel_rfl) cells23 hv h
  obtain ⟨s, e0, -, -⟩ := DataW.trod_int Tryd.underlying3 h0
  obtain ⟨n, e1, -, -⟩ := DataW.trod_int Tryd.underlying2 h1
  obtain ⟨t, e2, -, ht⟩ := DataW.trod_string Tryd.underlying9 h2
  simp only [List.cons.injEq, and_true] at e0 e1 e2
  subst e0 e1 e2
  exact ⟨s, n, t.data.toList, by unfold mkV; rw [mk_data], by rw [← size_eq]; exact ht⟩
end


/-- A world for a witness: the settled one, utf8's tables holding what their initialisers lay. -/
noncomputable def tabWorld (os : Os) : World :=
  { World.holding Tryd.prog os ⟨#[], #[], []⟩ with heap := (((World.holding Tryd.prog os ⟨#[], #[], []⟩).heap.modify 2 (fun
      | .cells _ t frozen => .cells ((List.range 256).map fun c => Value.int .u8 (firstT c)).toArray t frozen
      | o => o)).modify 3 (fun
      | .cells _ t frozen => .cells ((List.range 16).flatMap fun i => [Value.int .u8 (accLo i), Value.int .u8 (accHi i)]).toArray t frozen
      | o => o)) }
end Go.Proofs.YtcacembpegoghaaDoor
