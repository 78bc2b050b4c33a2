/-
  Rows of types that a call makes itself: what the cells of a row say, one behind the other; append of rows.
-/
import Derived.Test.YtcacembpegoghaaDoorTyP2
import Derived.Laws.AppendOwnNone
namespace Go.Proofs.YtcacembpegoghaaDoor
open Go.RowKit Go.Proofs

section
variable {P : Program} {ops : Array Oper} {rest : List Oper} {o : Oper} {a : Act} {Q : Exit → Act → World → Prop} {w : World}
/-- append(xs, ys...) where ys lie at a place, or are none. -/
theorem wpList_app_any {T E : TypeId} {size bytes : Nat} (R : RowType P T E size bytes) (hgd : o.guard = none) (s x : Operand)
    (ho : o.op = .call { callee := .builtin .append, args := #[s, x], argTypes := #[T, T] })
    (base : Nat) (v : Value) (n : Nat) (xs : List Value) (hs : a.eval s = v) (hown : w.ownsRow base E size v n xs)
    (A : Option Addr) (m c : Nat) (hx : a.eval x = .slice A m c) (ys : List Value) (hl : ys.length = m * size) (hA : A = none → m = 0 ∧ c = 0) (hsrc : ∀ ad, A = some ad → ∀ j u, ys[j]? = some u → w.cell? (ad.add j) = some u) (h1 : ∀ u ∈ ys, u.oneCell' = true)
    (h63 : n + m ≤ maxLen) (hbytes : (n + m) * bytes ≤ 140737488355328) (hbase : base ≤ w.heap.size)
    (h : ∀ v' w', w'.ownsRow base E size v' (n + m) (xs ++ ys) → Below base w w' → wpList P ops Q rest (a.put o.dst v') w') : wpList P ops Q (o :: rest) a w := by
  cases A with
  | none =>
    obtain ⟨rfl, rfl⟩ := hA rfl
    obtain ⟨i, z, hi, hz, hsize, hby, hzs⟩ := R.ex
    refine wpList_append_own_none hgd s x T ho base E i size R.ht hi v n xs hs hown hx ?_
    have : ys = [] := List.eq_nil_of_length_eq_zero (by omega)
    subst this
    exact h v w (by simpa using hown) (Below.refl _ _)
  | some ad =>
    exact wpList_app R hgd s x ho base v n xs hs hown ad m c ys hx hl (hsrc ad rfl) h1 h63 hbytes hbase fun v' w' k1 _ _ k4 => h v' w' k1 k4
end

/-- The cells of types that lie one behind the other. -/
inductive Cells5 (w : World) : List Value → List Ty → Prop where
  | nil : Cells5 w [] []
  | cons (t : Ty) (lv kv : Value) (xs : List Value) (ts : List Ty) (h1 : IsStrs w lv t.labels) (h2 : IsTys w kv t.kids) (h : Cells5 w xs ts) :
      Cells5 w (.int .i64 t.kind :: .int .i64 t.sort :: .string ⟨t.name.toArray⟩ :: lv :: kv :: xs) (t :: ts)
theorem Cells5.length {w : World} {xs : List Value} {ts : List Ty} (h : Cells5 w xs ts) : xs.length = ts.length * 5 := by
  induction h with
  | nil => rfl
  | cons => simp only [List.length_cons]; omega
theorem Cells5.append {w : World} {xs ys : List Value} {ts us : List Ty} (h : Cells5 w xs ts) (h' : Cells5 w ys us) : Cells5 w (xs ++ ys) (ts ++ us) := by
  induction h with
  | nil => exact h'
  | cons t lv kv xs ts h1 h2 _ ih => exact .cons t lv kv _ _ h1 h2 ih
theorem Cells5.keep {w w' : World} {xs : List Value} {ts : List Ty} (h : Cells5 w xs ts) (hb : Below w.heap.size w w') : Cells5 w' xs ts := by
  induction h with
  | nil => exact .nil
  | cons t lv kv xs ts h1 h2 _ ih => exact .cons t lv kv _ _ (h1.keep hb) (h2.keep hb) ih
theorem IsStrs.one {w : World} {v : Value} {l : List Str} (h : IsStrs w v l) : v.oneCell' = true := by obtain ⟨A, cap, rfl, _⟩ := h; rfl
theorem IsTys.one {w : World} {v : Value} {l : List Ty} (h : IsTys w v l) : v.oneCell' = true := by obtain ⟨A, cap, rfl, _⟩ := h; rfl
theorem Cells5.one {w : World} {xs : List Value} {ts : List Ty} (h : Cells5 w xs ts) : ∀ u ∈ xs, u.oneCell' = true := by
  induction h with
  | nil => simp
  | cons t lv kv xs ts h1 h2 _ ih =>
    intro u hu
    simp only [List.mem_cons] at hu
    rcases hu with rfl | rfl | rfl | rfl | rfl | hu
    · rfl
    · rfl
    · rfl
    · exact h1.one
    · exact h2.one
    · exact ih u hu
theorem Cells5.row {w : World} {b : Nat} {xs : List Value} {ts : List Ty} (h : Cells5 w xs ts) : ∀ (off : Nat), (∀ j u, xs[j]? = some u → w.cell? ⟨b, off + j, none⟩ = some u) → TyRow w b off ts := by
  induction h with
  | nil => intro off _; simp [TyRow]
  | cons t lv kv xs ts h1 h2 _ ih =>
    intro off hc
    refine ⟨(TyAt_iff _ _ _ _).2 ⟨lv, kv, hc 0 _ rfl, hc 1 _ rfl, hc 2 _ rfl, hc 3 _ rfl, hc 4 _ rfl, h1, h2⟩, ih (off + 5) fun j u hj => ?_⟩
    have := hc (j + 5) u (by simpa using hj)
    rw [show off + 5 + j = off + (j + 5) by omega]
    exact this
theorem row_cells5 {w : World} {b : Nat} : ∀ {ts : List Ty} {off : Nat}, TyRow w b off ts → ∃ xs, Cells5 w xs ts ∧ ∀ j u, xs[j]? = some u → w.cell? ⟨b, off + j, none⟩ = some u := by
  intro ts
  induction ts with
  | nil => intro off _; exact ⟨[], .nil, by simp⟩
  | cons t r ih =>
    intro off h
    obtain ⟨h1, h2⟩ := h
    obtain ⟨lv, kv, c0, c1, c2, c3, c4, h3, h4⟩ := (TyAt_iff _ _ _ _).1 h1
    obtain ⟨xs, hx, hc⟩ := ih h2
    refine ⟨_, .cons t lv kv xs r h3 h4 hx, fun j u hj => ?_⟩
    match j, hj with
    | 0, hj | 1, hj | 2, hj | 3, hj | 4, hj => simp at hj; subst hj; assumption
    | j + 5, hj =>
      have := hc j u (by simpa using hj)
      rw [show off + (j + 5) = off + 5 + j by omega]
      exact this
/-- A row of the call's own is a slice of types. -/
theorem own_tys {w : World} {base : Nat} {E : TypeId} {v : Value} {xs : List Value} {ts : List Ty} (h : w.ownsRow base E 5 v ts.length xs) (hc : Cells5 w xs ts) : IsTys w v ts := by
  have hcells := fun g => h.cells (g := g)
  rcases h.2 with ⟨rfl, h0⟩ | ⟨g, cap, cur, rfl, _, _, hn, _⟩
  · refine ⟨none, 0, by rw [h0], by omega, fun h1 => by omega⟩
  · refine ⟨_, cap, rfl, hn, fun _ => ⟨g, 0, rfl, hc.row 0 fun j u hj => ?_⟩⟩
    have := hcells g rfl j u hj
    rw [Go.WideShapes.add_plain] at this
    exact this

/-- One of the kids of a type. -/
theorem kid_at {w : World} {A : Option Addr} {n cap : Nat} {ks : List Ty} {i : Nat} {t : Ty} (h : IsTys w (.slice A n cap) ks) (hi : ks[i]? = some t) :
    n = ks.length ∧ n ≤ cap ∧ ∃ b off A1 n1 p1 A2 n2 p2, A = some ⟨b, off, none⟩ ∧ w.cell? ⟨b, off + i * 5, none⟩ = some (.int .i64 t.kind) ∧ w.cell? ⟨b, off + i * 5 + 1, none⟩ = some (.int .i64 t.sort) ∧ w.cell? ⟨b, off + i * 5 + 2, none⟩ = some (.string ⟨t.name.toArray⟩) ∧
      w.cell? ⟨b, off + i * 5 + 3, none⟩ = some (.slice A1 n1 p1) ∧ w.cell? ⟨b, off + i * 5 + 4, none⟩ = some (.slice A2 n2 p2) ∧ IsStrs w (.slice A1 n1 p1) t.labels ∧ IsTys w (.slice A2 n2 p2) t.kids := by
  obtain ⟨A', cap', e, hle, h3⟩ := h
  injection e with e1 e2 e3
  subst e1 e2 e3
  have hlt := (List.getElem?_eq_some_iff.1 hi).1
  obtain ⟨b, off, rfl, hr⟩ := h3 (by omega)
  obtain ⟨lv, kv, c0, c1, c2, c3, c4, h5, h6⟩ := (TyAt_iff _ _ _ _).1 (TyRow_at hr hi)
  have h5' := h5
  have h6' := h6
  obtain ⟨A1, p1, rfl, _⟩ := h5
  obtain ⟨A2, p2, rfl, _⟩ := h6
  exact ⟨rfl, hle, b, off, A1, _, p1, A2, _, p2, rfl, c0, c1, c2, c3, c4, h5', h6'⟩
theorem own_form {w : World} {base : Nat} {E : TypeId} {size n : Nat} {v : Value} {xs : List Value} (h : w.ownsRow base E size v n xs) : ∃ A cap, v = .slice A n cap := by
  rcases h.2 with ⟨rfl, h0⟩ | ⟨g, cap, cur, rfl, _⟩
  · rw [h0]; exact ⟨_, _, rfl⟩
  · exact ⟨_, _, rfl⟩
theorem isTy_of {w : World} {t : Ty} {lv kv : Value} (h1 : IsStrs w lv t.labels) (h2 : IsTys w kv t.kids) : IsTy w (.agg #[.int .i64 t.kind, .int .i64 t.sort, .string ⟨t.name.toArray⟩, lv, kv]) t := ⟨lv, kv, rfl, h1, h2⟩
theorem mem_of_at {α : Type} {l : List α} {i : Nat} {a : α} (h : l[i]? = some a) : a ∈ l := List.mem_of_getElem? h

theorem rt_types : RowType Tryd.prog 49 51 5 80 := .mk' (z := .agg #[.int .i64 0, .int .i64 0, .string ⟨#[]⟩, .slice none 0 0, .slice none 0 0]) Tryd.underlying49 (by kernel_rfl) rfl (by decide)
end Go.Proofs.YtcacembpegoghaaDoor
