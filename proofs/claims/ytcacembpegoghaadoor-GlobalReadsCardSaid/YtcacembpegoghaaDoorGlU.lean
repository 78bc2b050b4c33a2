/-
  The reference's list of what is still to be looked at: conversations, each with the names around it.
-/
import Derived.Test.YtcacembpegoghaaDoorGlT
import Derived.Test.YtcacembpegoghaaDoorTyT
namespace Go.Proofs.YtcacembpegoghaaDoor
open Go.RowKit Go.Proofs

def IsGls (w : World) (v : Value) (ks : List Gl) : Prop := Gls All w v ks
def IsGl (w : World) (v : Value) (t : Gl) : Prop := GlV All w v t
theorem StrsD.any {w : World} {v : Value} {l : List Str} (h : IsStrs w v l) : StrsD All w v l := h.toD.keep (Same.refl _ _) fun _ _ _ => trivial
theorem IsGls.keep {w w' : World} {v : Value} {ks : List Gl} (h : IsGls w v ks) (hb : Below w.heap.size w w') : IsGls w' v ks := Gls.below h hb
theorem IsGl.keep {w w' : World} {v : Value} {t : Gl} (h : IsGl w v t) (hb : Below w.heap.size w w') : IsGl w' v t := GlV.below h hb
theorem IsGls.one {w : World} {v : Value} {l : List Gl} (h : IsGls w v l) : v.oneCell' = true := Gls.one h
theorem isGl_of {w : World} {t : Gl} {lv kv : Value} (h1 : IsStrs w lv t.labels) (h2 : IsGls w kv t.kids) : IsGl w (.agg #[.int .i64 t.kind, .string ⟨t.frm.toArray⟩, .string ⟨t.rcv.toArray⟩, .int .i64 t.sort, .string ⟨t.name.toArray⟩, lv, kv]) t := ⟨lv, kv, rfl, StrsD.any h1, h2⟩
theorem gkid_all {w : World} {A : Option Addr} {n cap : Nat} {ks : List Gl} {i : Nat} {t : Gl} (h : IsGls w (.slice A n cap) ks) (hi : ks[i]? = some t) :
    n = ks.length ∧ n ≤ cap ∧ ∃ b off A1 n1 p1 A2 n2 p2, A = some ⟨b, off, none⟩ ∧ w.cell? ⟨b, off + i * 7, none⟩ = some (.int .i64 t.kind) ∧ w.cell? ⟨b, off + i * 7 + 1, none⟩ = some (.string ⟨t.frm.toArray⟩) ∧ w.cell? ⟨b, off + i * 7 + 2, none⟩ = some (.string ⟨t.rcv.toArray⟩) ∧ w.cell? ⟨b, off + i * 7 + 3, none⟩ = some (.int .i64 t.sort) ∧ w.cell? ⟨b, off + i * 7 + 4, none⟩ = some (.string ⟨t.name.toArray⟩) ∧
      w.cell? ⟨b, off + i * 7 + 5, none⟩ = some (.slice A1 n1 p1) ∧ w.cell? ⟨b, off + i * 7 + 6, none⟩ = some (.slice A2 n2 p2) ∧ IsStrs w (.slice A1 n1 p1) t.labels ∧ IsGls w (.slice A2 n2 p2) t.kids := by
  obtain ⟨h1, h2, b, off, A1, n1, p1, A2, n2, p2, e, -, c0, c1, c2, c3, c4, c5, c6, h3, h4⟩ := gkid_at h hi
  exact ⟨h1, h2, b, off, A1, n1, p1, A2, n2, p2, e, c0, c1, c2, c3, c4, c5, c6, h3.is, h4⟩

abbrev GTodo := Gl × List Str
/-- The cells of what is to be looked at, one behind the other. -/
inductive Cells8 (w : World) : List Value → List GTodo → Prop where
  | nil : Cells8 w [] []
  | cons (t : Gl) (ns : List Str) (lv kv nv : Value) (xs : List Value) (ts : List GTodo) (h1 : IsStrs w lv t.labels) (h2 : IsGls w kv t.kids) (h3 : Names w nv ns) (h : Cells8 w xs ts) :
      Cells8 w (.int .i64 t.kind :: .string ⟨t.frm.toArray⟩ :: .string ⟨t.rcv.toArray⟩ :: .int .i64 t.sort :: .string ⟨t.name.toArray⟩ :: lv :: kv :: nv :: xs) ((t, ns) :: ts)
theorem Cells8.length {w : World} {xs : List Value} {ts : List GTodo} (h : Cells8 w xs ts) : xs.length = ts.length * 8 := by
  induction h with
  | nil => rfl
  | cons => simp only [List.length_cons]; omega
theorem Cells8.append {w : World} {xs ys : List Value} {ts us : List GTodo} (h : Cells8 w xs ts) (h' : Cells8 w ys us) : Cells8 w (xs ++ ys) (ts ++ us) := by
  induction h with
  | nil => exact h'
  | cons t ns lv kv nv xs ts h1 h2 h3 _ ih => exact .cons t ns lv kv nv _ _ h1 h2 h3 ih
theorem Cells8.keep {w w' : World} {xs : List Value} {ts : List GTodo} (h : Cells8 w xs ts) (hb : Below w.heap.size w w') : Cells8 w' xs ts := by
  induction h with
  | nil => exact .nil
  | cons t ns lv kv nv xs ts h1 h2 h3 _ ih => exact .cons t ns lv kv nv _ _ (h1.keep hb) (h2.keep hb) (h3.keep hb) ih
theorem Cells8.one {w : World} {xs : List Value} {ts : List GTodo} (h : Cells8 w xs ts) : ∀ u ∈ xs, u.oneCell' = true := by
  induction h with
  | nil => simp
  | cons t ns lv kv nv xs ts h1 h2 h3 _ ih =>
    intro u hu
    simp only [List.mem_cons] at hu
    rcases hu with rfl | rfl | rfl | rfl | rfl | rfl | rfl | rfl | hu
    · rfl
    · rfl
    · rfl
    · rfl
    · rfl
    · exact h1.one
    · exact h2.one
    · exact h3.one
    · exact ih u hu

/-- A slice of what is to be looked at. -/
def IsGTodos (w : World) (v : Value) (st : List GTodo) : Prop := ∃ A cap xs, v = .slice A st.length cap ∧ st.length ≤ cap ∧ Cells8 w xs st ∧ (A = none → st = [] ∧ cap = 0) ∧ ∀ ad, A = some ad → ad.spot = none ∧ ∀ j u, xs[j]? = some u → w.cell? (ad.add j) = some u
theorem own_gtodos {w : World} {base : Nat} {E : TypeId} {v : Value} {xs : List Value} {st : List GTodo} (h : w.ownsRow base E 8 v st.length xs) (hc : Cells8 w xs st) : IsGTodos w v st := by
  have hcells := fun g => h.cells (g := g)
  rcases h.2 with ⟨rfl, h0⟩ | ⟨g, cap, cur, rfl, _, _, hn, _⟩
  · exact ⟨none, 0, xs, by rw [h0], by omega, hc, fun _ => ⟨List.eq_nil_of_length_eq_zero h0, rfl⟩, fun ad e => by cases e⟩
  · refine ⟨_, cap, xs, rfl, hn, hc, (fun e => by cases e), fun ad e => ?_⟩
    cases e
    exact ⟨rfl, hcells g rfl⟩
theorem IsGTodos.keep {w w' : World} {v : Value} {st : List GTodo} (h : IsGTodos w v st) (hb : Below w.heap.size w w') : IsGTodos w' v st := by
  obtain ⟨A, cap, xs, h1, h2, h3, h4, h5⟩ := h
  refine ⟨A, cap, xs, h1, h2, h3.keep hb, h4, fun ad e => ⟨(h5 ad e).1, fun j u hj => ?_⟩⟩
  obtain ⟨b, off, spot⟩ := ad
  have h6 := (h5 _ e).1
  simp only at h6
  subst h6
  have := (h5 _ e).2 j u hj
  rw [Go.WideShapes.add_plain] at this ⊢
  exact cell_keep this hb
/-- The first, and what comes behind it. -/
theorem IsGTodos.head {w : World} {A : Option Addr} {n cap : Nat} {t : Gl} {ns : List Str} {st : List GTodo} (h : IsGTodos w (.slice A n cap) ((t, ns) :: st)) :
    n = st.length + 1 ∧ n ≤ cap ∧ ∃ b off lv kv nv, A = some ⟨b, off, none⟩ ∧ w.cell? ⟨b, off, none⟩ = some (.int .i64 t.kind) ∧ w.cell? ⟨b, off + 1, none⟩ = some (.string ⟨t.frm.toArray⟩) ∧ w.cell? ⟨b, off + 2, none⟩ = some (.string ⟨t.rcv.toArray⟩) ∧ w.cell? ⟨b, off + 3, none⟩ = some (.int .i64 t.sort) ∧ w.cell? ⟨b, off + 4, none⟩ = some (.string ⟨t.name.toArray⟩) ∧
      w.cell? ⟨b, off + 5, none⟩ = some lv ∧ w.cell? ⟨b, off + 6, none⟩ = some kv ∧ w.cell? ⟨b, off + 7, none⟩ = some nv ∧ IsStrs w lv t.labels ∧ IsGls w kv t.kids ∧ Names w nv ns ∧
      ∀ c, st.length ≤ c → IsGTodos w (.slice (some ⟨b, off + 8, none⟩) st.length c) st := by
  obtain ⟨A', cap', xs, e, hle, hc, h0, h5⟩ := h
  injection e with e1 e2 e3
  subst e1 e2 e3
  simp only [List.length_cons] at hle ⊢
  refine ⟨trivial, hle, ?_⟩
  cases A with
  | none => exact absurd (h0 rfl).1 (by simp)
  | some ad =>
    obtain ⟨b, off, spot⟩ := ad
    obtain ⟨h6, h7⟩ := h5 _ rfl
    simp only at h6
    subst h6
    cases hc with
    | cons t ns lv kv nv xs ts h1 h2 h3 h =>
      have hcell : ∀ j u, (Value.int .i64 t.kind :: Value.string ⟨t.frm.toArray⟩ :: Value.string ⟨t.rcv.toArray⟩ :: Value.int .i64 t.sort :: Value.string ⟨t.name.toArray⟩ :: lv :: kv :: nv :: xs)[j]? = some u → w.cell? ⟨b, off + j, none⟩ = some u := fun j u hj => by
        have := h7 j u hj
        rw [Go.WideShapes.add_plain] at this
        exact this
      refine ⟨b, off, lv, kv, nv, rfl, hcell 0 _ rfl, hcell 1 _ rfl, hcell 2 _ rfl, hcell 3 _ rfl, hcell 4 _ rfl, hcell 5 _ rfl, hcell 6 _ rfl, hcell 7 _ rfl, h1, h2, h3, fun c hcl => ⟨_, c, xs, rfl, hcl, h, (fun e => by cases e), fun ad e => ?_⟩⟩
      cases e
      refine ⟨rfl, fun j u hj => ?_⟩
      have := hcell (j + 8) u (by simpa using hj)
      rw [Go.WideShapes.add_plain, show off + 8 + j = off + (j + 8) by omega]
      exact this
theorem rt_gtodos : RowType Tryd.prog 241 240 8 136 := .mk' (z := .agg #[.int .i64 0, .string ⟨#[]⟩, .string ⟨#[]⟩, .int .i64 0, .string ⟨#[]⟩, .slice none 0 0, .slice none 0 0, .slice none 0 0]) Tryd.underlying241 (by kernel_rfl) rfl (by decide)
end Go.Proofs.YtcacembpegoghaaDoor
