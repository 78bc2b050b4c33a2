/-
  The words of types.sorts as they lie in the world; the type that stands for none.
-/
import Derived.Test.YtcacembpegoghaaDoorTyOpen
namespace Go.Proofs.YtcacembpegoghaaDoor
open Go.RowKit Go.Proofs

def Sorts (w : World) : Prop := ∃ b o c, w.cell? ⟨1, 0, none⟩ = some (.slice (some ⟨b, o, none⟩) 4 c) ∧ 4 ≤ c ∧ StrRow w b o [[], [105, 110, 116], [98, 111, 111, 108], [116, 101, 120, 116]]
theorem Sorts.keep {w w' : World} (h : Sorts w) (hb : Below w.heap.size w w') : Sorts w' := by
  obtain ⟨b, o, c, h1, h2, h3⟩ := h
  exact ⟨b, o, c, cell_keep h1 hb, h2, h3.keep hb⟩

def noTy : Ty := .mk 0 0 [] [] []
theorem fit_no : Fit noTy := .mk 0 0 [] [] [] (by decide) (by decide) (by simp) (by simp) (by simp) (by simp) (by simp)
end Go.Proofs.YtcacembpegoghaaDoor
