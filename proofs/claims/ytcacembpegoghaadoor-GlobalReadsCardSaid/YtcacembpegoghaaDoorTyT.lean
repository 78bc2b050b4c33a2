/-
  The reference's list of what is still to be looked at: types, each with the names around it.
-/
import Derived.Test.YtcacembpegoghaaDoorTyR
namespace Go.Proofs.YtcacembpegoghaaDoor
open Go.RowKit Go.Proofs

abbrev Todo := Ty × List Str
/-- Names that are around: a slice of texts; without an array it is nil. -/
structure Names (w : World) (v : Value) (l : List Str) : Prop where
  s : IsStrs w v l
  z : ∀ n c, v = .slice none n c → c = 0
theorem Names.keep {w w' : World} {v : Value} {l : List Str} (h : Names w v l) (hb : Below w.heap.size w w') : Names w' v l := ⟨h.s.keep hb, h.z⟩
theorem Names.one {w : World} {v : Value} {l : List Str} (h : Names w v l) : v.oneCell' = true := h.s.one
theorem Names.none (w : World) : Names w (.slice none 0 0) [] := ⟨⟨Option.none, 0, rfl, Nat.le_refl _, fun h => by simp at h⟩, fun n c e => by injection e with _ _ e; exact e.symm⟩
/-- The cells of what is to be looked at, one behind the other. -/
inductive Cells6 (w : World) : List Value → List Todo → Prop where
  | nil : Cells6 w [] []
  | cons (t : Ty) (ns : List Str) (lv kv nv : Value) (xs : List Value) (ts : List Todo) (h1 : IsStrs w lv t.labels) (h2 : IsTys w kv t.kids) (h3 : Names w nv ns) (h : Cells6 w xs ts) :
      Cells6 w (.int .i64 t.kind :: .int .i64 t.sort :: .string ⟨t.name.toArray⟩ :: lv :: kv :: nv :: xs) ((t, ns) :: ts)
theorem Cells6.length {w : World} {xs : List Value} {ts : List Todo} (h : Cells6 w xs ts) : xs.length = ts.length * 6 := by
  induction h with
  | nil => rfl
  | cons => simp only [List.length_cons]; omega
theorem Cells6.append {w : World} {xs ys : List Value} {ts us : List Todo} (h : Cells6 w xs ts) (h' : Cells6 w ys us) : Cells6 w (xs ++ ys) (ts ++ us) := by
  induction h with
  | nil => exact h'
  | cons t ns lv kv nv xs ts h1 h2 h3 _ ih => exact .cons t ns lv kv nv _ _ h1 h2 h3 ih
theorem Cells6.keep {w w' : World} {xs : List Value} {ts : List Todo} (h : Cells6 w xs ts) (hb : Below w.heap.size w w') : Cells6 w' xs ts := by
  induction h with
  | nil => exact .nil
  | cons t ns lv kv nv xs ts h1 h2 h3 _ ih => exact .cons t ns lv kv nv _ _ (h1.keep hb) (h2.keep hb) (h3.keep hb) ih
theorem Cells6.one {w : World} {xs : List Value} {ts : List Todo} (h : Cells6 w xs ts) : ∀ u ∈ xs, u.oneCell' = true := by
  induction h with
  | nil => simp
  | cons t ns lv kv nv xs ts h1 h2 h3 _ ih =>
    intro u hu
    simp only [List.mem_cons] at hu
    rcases hu with rfl | rfl | rfl | rfl | rfl | rfl | hu
    · rfl
    · rfl
    · rfl
    · exact h1.one
    · exact h2.one
    · exact h3.one
    · exact ih u hu

/-- A slice of what is to be looked at. -/
def IsTodos (w : World) (v : Value) (st : List Todo) : Prop := ∃ A cap xs, v = .slice A st.length cap ∧ st.length ≤ cap ∧ Cells6 w xs st ∧ (A = none → st = [] ∧ cap = 0) ∧ ∀ ad, A = some ad → ad.spot = none ∧ ∀ j u, xs[j]? = some u → w.cell? (ad.add j) = some u
theorem own_todos {w : World} {base : Nat} {E : TypeId} {v : Value} {xs : List Value} {st : List Todo} (h : w.ownsRow base E 6 v st.length xs) (hc : Cells6 w xs st) : IsTodos w v st := by
  have hcells := fun g => h.cells (g := g)
  rcases h.2 with ⟨rfl, h0⟩ | ⟨g, cap, cur, rfl, _, _, hn, _⟩
  · exact ⟨none, 0, xs, by rw [h0], by omega, hc, fun _ => ⟨List.eq_nil_of_length_eq_zero h0, rfl⟩, fun ad e => by cases e⟩
  · refine ⟨_, cap, xs, rfl, hn, hc, (fun e => by cases e), fun ad e => ?_⟩
    cases e
    exact ⟨rfl, hcells g rfl⟩
theorem IsTodos.keep {w w' : World} {v : Value} {st : List Todo} (h : IsTodos w v st) (hb : Below w.heap.size w w') : IsTodos w' v st := by
  obtain ⟨A, cap, xs, h1, h2, h3, h4, h5⟩ := h
  refine ⟨A, cap, xs, h1, h2, h3.keep hb, h4, fun ad e => ⟨(h5 ad e).1, fun j u hj => ?_⟩⟩
  obtain ⟨b, off, spot⟩ := ad
  have h6 := (h5 _ e).1
  simp only at h6
  subst h6
  have := (h5 _ e).2 j u hj
  rw [Go.WideShapes.add_plain] at this ⊢
  exact cell_keep this hb
/-- The first, and what comes behind it. -/
theorem IsTodos.head {w : World} {A : Option Addr} {n cap : Nat} {t : Ty} {ns : List Str} {st : List Todo} (h : IsTodos w (.slice A n cap) ((t, ns) :: st)) :
    n = st.length + 1 ∧ n ≤ cap ∧ ∃ b off lv kv nv, A = some ⟨b, off, none⟩ ∧ w.cell? ⟨b, off, none⟩ = some (.int .i64 t.kind) ∧ w.cell? ⟨b, off + 1, none⟩ = some (.int .i64 t.sort) ∧ w.cell? ⟨b, off + 2, none⟩ = some (.string ⟨t.name.toArray⟩) ∧
      w.cell? ⟨b, off + 3, none⟩ = some lv ∧ w.cell? ⟨b, off + 4, none⟩ = some kv ∧ w.cell? ⟨b, off + 5, none⟩ = some nv ∧ IsStrs w lv t.labels ∧ IsTys w kv t.kids ∧ Names w nv ns ∧
      ∀ c, st.length ≤ c → IsTodos w (.slice (some ⟨b, off + 6, none⟩) st.length c) st := by
  obtain ⟨A', cap', xs, e, hle, hc, h0, h5⟩ := h
  injection e with e1 e2 e3
  subst e1 e2 e3
  simp only [List.length_cons] at hle ⊢
  refine ⟨trivial, hle, ?_⟩
  cases A with
  | none => exact absurd (h0 rfl).1 (by simp)
  | some ad =>
    obtain ⟨b, off, spot⟩ := ad
    obtain ⟨h6, h7⟩ := h5 _ rfl
    simp only at h6
    subst h6
    cases hc with
    | cons t ns lv kv nv xs ts h1 h2 h3 h =>
      have hcell : ∀ j u, (Value.int .i64 t.kind :: Value.int .i64 t.sort :: Value.string ⟨t.name.toArray⟩ :: lv :: kv :: nv :: xs)[j]? = some u → w.cell? ⟨b, off + j, none⟩ = some u := fun j u hj => by
        have := h7 j u hj
        rw [Go.WideShapes.add_plain] at this
        exact this
      refine ⟨b, off, lv, kv, nv, rfl, hcell 0 _ rfl, hcell 1 _ rfl, hcell 2 _ rfl, hcell 3 _ rfl, hcell 4 _ rfl, hcell 5 _ rfl, h1, h2, h3, fun c hcl => ⟨_, c, xs, rfl, hcl, h, (fun e => by cases e), fun ad e => ?_⟩⟩
      cases e
      refine ⟨rfl, fun j u hj => ?_⟩
      have := hcell (j + 6) u (by simpa using hj)
      rw [Go.WideShapes.add_plain, show off + 6 + j = off + (j + 6) by omega]
      exact this
theorem rt_todos : RowType Tryd.prog 140 139 6 104 := .mk' (z := .agg #[.int .i64 0, .int .i64 0, .string ⟨#[]⟩, .slice none 0 0, .slice none 0 0, .slice none 0 0]) Tryd.underlying140 (by kernel_rfl) rfl (by decide)
end Go.Proofs.YtcacembpegoghaaDoor
