/-
  Types (api.Type) as trees, and how they lie in memory.
-/
import Derived.Test.YtcacembpegoghaaDoorRow
namespace Go.Proofs.YtcacembpegoghaaDoor
open Go.RowKit Go.Proofs

abbrev Str := List UInt8

/-- A type: kind, sort, name, labels, kids. -/
inductive Ty where
  | mk (kind sort : Int) (name : Str) (labels : List Str) (kids : List Ty)

namespace Ty
def kind : Ty → Int | mk k _ _ _ _ => k
def sort : Ty → Int | mk _ s _ _ _ => s
def name : Ty → Str | mk _ _ n _ _ => n
def labels : Ty → List Str | mk _ _ _ l _ => l
def kids : Ty → List Ty | mk _ _ _ _ k => k
end Ty

/-- A row of texts. -/
def StrRow (w : World) (b off : Nat) (l : List Str) : Prop := ∀ i s, l[i]? = some s → w.cell? ⟨b, off + i, none⟩ = some (.string ⟨s.toArray⟩)
/-- A slice of texts. -/
def IsStrs (w : World) (v : Value) (l : List Str) : Prop := ∃ A cap, v = .slice A l.length cap ∧ l.length ≤ cap ∧ (0 < l.length → ∃ b off, A = some ⟨b, off, none⟩ ∧ StrRow w b off l)

mutual
/-- A type lies at a place. -/
def TyAt (w : World) (b off : Nat) : Ty → Prop
  | .mk k s n ls ks => ∃ lv kv, w.cell? ⟨b, off, none⟩ = some (.int .i64 k) ∧ w.cell? ⟨b, off + 1, none⟩ = some (.int .i64 s) ∧ w.cell? ⟨b, off + 2, none⟩ = some (.string ⟨n.toArray⟩) ∧ w.cell? ⟨b, off + 3, none⟩ = some lv ∧ w.cell? ⟨b, off + 4, none⟩ = some kv ∧
      IsStrs w lv ls ∧ ∃ A cap, kv = .slice A ks.length cap ∧ ks.length ≤ cap ∧ (0 < ks.length → ∃ b' off', A = some ⟨b', off', none⟩ ∧ TyRow w b' off' ks)
/-- Types lie one behind the other. -/
def TyRow (w : World) (b off : Nat) : List Ty → Prop
  | [] => True
  | t :: r => TyAt w b off t ∧ TyRow w b (off + 5) r
end
/-- A slice of types. -/
def IsTys (w : World) (v : Value) (ks : List Ty) : Prop := ∃ A cap, v = .slice A ks.length cap ∧ ks.length ≤ cap ∧ (0 < ks.length → ∃ b off, A = some ⟨b, off, none⟩ ∧ TyRow w b off ks)
/-- A type by value. -/
def IsTy (w : World) (v : Value) (t : Ty) : Prop := ∃ lv kv, v = .agg #[.int .i64 t.kind, .int .i64 t.sort, .string ⟨t.name.toArray⟩, lv, kv] ∧ IsStrs w lv t.labels ∧ IsTys w kv t.kids

theorem TyAt_iff (w : World) (b off : Nat) (t : Ty) : TyAt w b off t ↔ ∃ lv kv, w.cell? ⟨b, off, none⟩ = some (.int .i64 t.kind) ∧ w.cell? ⟨b, off + 1, none⟩ = some (.int .i64 t.sort) ∧ w.cell? ⟨b, off + 2, none⟩ = some (.string ⟨t.name.toArray⟩) ∧ w.cell? ⟨b, off + 3, none⟩ = some lv ∧ w.cell? ⟨b, off + 4, none⟩ = some kv ∧
    IsStrs w lv t.labels ∧ IsTys w kv t.kids := by
  cases t with
  | mk k s n ls ks => simp only [TyAt, IsTys, Ty.kind, Ty.sort, Ty.name, Ty.labels, Ty.kids]
theorem TyRow_at {w : World} {b : Nat} : ∀ {ks : List Ty} {off i : Nat} {t : Ty}, TyRow w b off ks → ks[i]? = some t → TyAt w b (off + i * 5) t := by
  intro ks
  induction ks with
  | nil => intro off i t _ h; simp at h
  | cons x r ih =>
    intro off i t h hi
    simp only [TyRow] at h
    match i, hi with
    | 0, hi => simp at hi; subst hi; simpa using h.1
    | i + 1, hi =>
      have := ih h.2 (by simpa using hi)
      rw [show off + (i + 1) * 5 = off + 5 + i * 5 by omega]
      exact this
theorem TyRow_of {w : World} {b : Nat} : ∀ {ks : List Ty} {off : Nat}, (∀ i t, ks[i]? = some t → TyAt w b (off + i * 5) t) → TyRow w b off ks := by
  intro ks
  induction ks with
  | nil => intro off _; simp [TyRow]
  | cons x r ih =>
    intro off h
    simp only [TyRow]
    refine ⟨by simpa using h 0 x rfl, ih fun i t hi => ?_⟩
    have := h (i + 1) t (by simpa using hi)
    rw [show off + (i + 1) * 5 = off + 5 + i * 5 by omega] at this
    exact this

theorem cell_lt {w : World} {b o : Nat} {v : Value} (h : w.cell? ⟨b, o, none⟩ = some v) : b < w.heap.size := by
  unfold World.cell? at h
  rcases Nat.lt_or_ge b w.heap.size with hl | hl
  · exact hl
  · rw [Array.getElem?_eq_none hl] at h; cases h
theorem cell_keep {w w' : World} {b o : Nat} {v : Value} (h : w.cell? ⟨b, o, none⟩ = some v) (hb : Below w.heap.size w w') : w'.cell? ⟨b, o, none⟩ = some v :=
  (hb.cell (p := ⟨b, o, none⟩) (cell_lt h)).trans h
theorem StrRow.keep {w w' : World} {b off : Nat} {l : List Str} (h : StrRow w b off l) (hb : Below w.heap.size w w') : StrRow w' b off l := fun i s hi => cell_keep (h i s hi) hb
theorem IsStrs.keep {w w' : World} {v : Value} {l : List Str} (h : IsStrs w v l) (hb : Below w.heap.size w w') : IsStrs w' v l := by
  obtain ⟨A, cap, h1, h2, h3⟩ := h
  exact ⟨A, cap, h1, h2, fun h0 => let ⟨b, off, e, hr⟩ := h3 h0; ⟨b, off, e, hr.keep hb⟩⟩
mutual
theorem TyAt_keep {w w' : World} (hb : Below w.heap.size w w') : ∀ {b off : Nat} (t : Ty), TyAt w b off t → TyAt w' b off t
  | b, off, .mk k s n ls ks => by
    simp only [TyAt]
    rintro ⟨lv, kv, h0, h1, h2, h3, h4, h5, A, cap, h6, h7, h8⟩
    exact ⟨lv, kv, cell_keep h0 hb, cell_keep h1 hb, cell_keep h2 hb, cell_keep h3 hb, cell_keep h4 hb, h5.keep hb, A, cap, h6, h7, fun h0 => let ⟨b, off, e, hr⟩ := h8 h0; ⟨b, off, e, TyRow_keep hb ks hr⟩⟩
theorem TyRow_keep {w w' : World} (hb : Below w.heap.size w w') : ∀ {b off : Nat} (ks : List Ty), TyRow w b off ks → TyRow w' b off ks
  | _, _, [] => by simp [TyRow]
  | b, off, t :: r => by
    simp only [TyRow]
    rintro ⟨h1, h2⟩
    exact ⟨TyAt_keep hb t h1, TyRow_keep hb r h2⟩
end
theorem IsTys.keep {w w' : World} {v : Value} {ks : List Ty} (h : IsTys w v ks) (hb : Below w.heap.size w w') : IsTys w' v ks := by
  obtain ⟨A, cap, h1, h2, h3⟩ := h
  exact ⟨A, cap, h1, h2, fun h0 => let ⟨b, off, e, hr⟩ := h3 h0; ⟨b, off, e, TyRow_keep hb ks hr⟩⟩
theorem IsTy.keep {w w' : World} {v : Value} {t : Ty} (h : IsTy w v t) (hb : Below w.heap.size w w') : IsTy w' v t := by
  obtain ⟨lv, kv, h1, h2, h3⟩ := h
  exact ⟨lv, kv, h1, h2.keep hb, h3.keep hb⟩
end Go.Proofs.YtcacembpegoghaaDoor
