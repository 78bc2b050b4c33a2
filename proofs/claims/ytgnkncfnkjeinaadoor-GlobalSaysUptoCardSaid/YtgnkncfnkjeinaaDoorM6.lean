/-
  Types in memory, with the blocks in which they lie (D): what is kept while these blocks are kept.
  Conversations (api.Global) as trees, and how they lie in memory, with the blocks in which they lie (D).
-/
import Derived.Test.YtgnkncfnkjeinaaDoorM5
import Derived.Test.YtgnkncfnkjeinaaDoorM4
namespace Go.Proofs.YtgnkncfnkjeinaaDoor
open Go.RowKit Go.Proofs

mutual
def TyAtD (D : Blocks) (w : World) (b off : Nat) : Ty → Prop
  | .mk k s n ls ks => ∃ lv kv, w.cell? ⟨b, off, none⟩ = some (.int .i64 k) ∧ w.cell? ⟨b, off + 1, none⟩ = some (.int .i64 s) ∧ w.cell? ⟨b, off + 2, none⟩ = some (.string ⟨n.toArray⟩) ∧ w.cell? ⟨b, off + 3, none⟩ = some lv ∧ w.cell? ⟨b, off + 4, none⟩ = some kv ∧
      StrsD D w lv ls ∧ ∃ A cap, kv = .slice A ks.length cap ∧ ks.length ≤ cap ∧ (0 < ks.length → ∃ b' off', A = some ⟨b', off', none⟩ ∧ D b' ∧ TyRowD D w b' off' ks)
def TyRowD (D : Blocks) (w : World) (b off : Nat) : List Ty → Prop
  | [] => True
  | t :: r => TyAtD D w b off t ∧ TyRowD D w b (off + 5) r
end
def TysD (D : Blocks) (w : World) (v : Value) (ks : List Ty) : Prop := ∃ A cap, v = .slice A ks.length cap ∧ ks.length ≤ cap ∧ (0 < ks.length → ∃ b off, A = some ⟨b, off, none⟩ ∧ D b ∧ TyRowD D w b off ks)
def TyD (D : Blocks) (w : World) (v : Value) (t : Ty) : Prop := ∃ lv kv, v = .agg #[.int .i64 t.kind, .int .i64 t.sort, .string ⟨t.name.toArray⟩, lv, kv] ∧ StrsD D w lv t.labels ∧ TysD D w kv t.kids

theorem TyAtD_iff (D : Blocks) (w : World) (b off : Nat) (t : Ty) : TyAtD D w b off t ↔ ∃ lv kv, w.cell? ⟨b, off, none⟩ = some (.int .i64 t.kind) ∧ w.cell? ⟨b, off + 1, none⟩ = some (.int .i64 t.sort) ∧ w.cell? ⟨b, off + 2, none⟩ = some (.string ⟨t.name.toArray⟩) ∧ w.cell? ⟨b, off + 3, none⟩ = some lv ∧ w.cell? ⟨b, off + 4, none⟩ = some kv ∧
    StrsD D w lv t.labels ∧ TysD D w kv t.kids := by
  cases t with
  | mk k s n ls ks => simp only [TyAtD, TysD, Ty.kind, Ty.sort, Ty.name, Ty.labels, Ty.kids]
theorem TyRowD_at {D : Blocks} {w : World} {b : Nat} : ∀ {ks : List Ty} {off i : Nat} {t : Ty}, TyRowD D w b off ks → ks[i]? = some t → TyAtD D w b (off + i * 5) t := by
  intro ks
  induction ks with
  | nil => intro off i t _ h; simp at h
  | cons x r ih =>
    intro off i t h hi
    simp only [TyRowD] at h
    match i, hi with
    | 0, hi => simp at hi; subst hi; simpa using h.1
    | i + 1, hi =>
      have := ih h.2 (by simpa using hi)
      rw [show off + (i + 1) * 5 = off + 5 + i * 5 by omega]
      exact this

mutual
theorem TyAtD_keep {D D' : Blocks} {w w' : World} (hs : Same D w w') (hD : ∀ b, D b → b < w.heap.size → D' b) : ∀ {b off : Nat} (t : Ty), D b → TyAtD D w b off t → TyAtD D' w' b off t
  | b, off, .mk k s n ls ks => by
    simp only [TyAtD]
    rintro hd ⟨lv, kv, h0, h1, h2, h3, h4, h5, A, cap, h6, h7, h8⟩
    refine ⟨lv, kv, hs.cell hd h0, hs.cell hd h1, hs.cell hd h2, hs.cell hd h3, hs.cell hd h4, h5.keep hs hD, A, cap, h6, h7, fun h0 => ?_⟩
    obtain ⟨b', off', e, hd', hr⟩ := h8 h0
    refine ⟨b', off', e, hD b' hd' ?_, TyRowD_keep hs hD ks hd' hr⟩
    cases ks with
    | nil => simp at h0
    | cons t r =>
      obtain ⟨hr1, -⟩ := hr
      obtain ⟨_, _, hc, -⟩ := (TyAtD_iff _ _ _ _ _).1 hr1
      exact cell_lt hc
theorem TyRowD_keep {D D' : Blocks} {w w' : World} (hs : Same D w w') (hD : ∀ b, D b → b < w.heap.size → D' b) : ∀ {b off : Nat} (ks : List Ty), D b → TyRowD D w b off ks → TyRowD D' w' b off ks
  | _, _, [] => by simp [TyRowD]
  | b, off, t :: r => by
    simp only [TyRowD]
    rintro hd ⟨h1, h2⟩
    exact ⟨TyAtD_keep hs hD t hd h1, TyRowD_keep hs hD r hd h2⟩
end
theorem TysD.keep {D D' : Blocks} {w w' : World} {v : Value} {ks : List Ty} (h : TysD D w v ks) (hs : Same D w w') (hD : ∀ b, D b → b < w.heap.size → D' b) : TysD D' w' v ks := by
  obtain ⟨A, cap, h1, h2, h3⟩ := h
  refine ⟨A, cap, h1, h2, fun h0 => ?_⟩
  obtain ⟨b, off, e, hd, hr⟩ := h3 h0
  refine ⟨b, off, e, hD b hd ?_, TyRowD_keep hs hD ks hd hr⟩
  cases ks with
  | nil => simp at h0
  | cons t r =>
    obtain ⟨hr1, -⟩ := hr
    obtain ⟨_, _, hc, -⟩ := (TyAtD_iff _ _ _ _ _).1 hr1
    exact cell_lt hc
theorem TyD.keep {D D' : Blocks} {w w' : World} {v : Value} {t : Ty} (h : TyD D w v t) (hs : Same D w w') (hD : ∀ b, D b → b < w.heap.size → D' b) : TyD D' w' v t := by
  obtain ⟨lv, kv, h1, h2, h3⟩ := h
  exact ⟨lv, kv, h1, h2.keep hs hD, h3.keep hs hD⟩

mutual
theorem TyAtD_is {D : Blocks} {w : World} : ∀ {b off : Nat} (t : Ty), TyAtD D w b off t → TyAt w b off t
  | b, off, .mk k s n ls ks => by
    simp only [TyAtD, TyAt]
    rintro ⟨lv, kv, h0, h1, h2, h3, h4, h5, A, cap, h6, h7, h8⟩
    exact ⟨lv, kv, h0, h1, h2, h3, h4, h5.is, A, cap, h6, h7, fun h0 => let ⟨b', off', e, _, hr⟩ := h8 h0; ⟨b', off', e, TyRowD_is ks hr⟩⟩
theorem TyRowD_is {D : Blocks} {w : World} : ∀ {b off : Nat} (ks : List Ty), TyRowD D w b off ks → TyRow w b off ks
  | _, _, [] => by simp [TyRow]
  | b, off, t :: r => by
    simp only [TyRow, TyRowD]
    rintro ⟨h1, h2⟩
    exact ⟨TyAtD_is t h1, TyRowD_is r h2⟩
end
theorem TysD.is {D : Blocks} {w : World} {v : Value} {ks : List Ty} (h : TysD D w v ks) : IsTys w v ks := by
  obtain ⟨A, cap, h1, h2, h3⟩ := h
  exact ⟨A, cap, h1, h2, fun h0 => let ⟨b, off, e, _, hr⟩ := h3 h0; ⟨b, off, e, TyRowD_is ks hr⟩⟩
theorem TyD.is {D : Blocks} {w : World} {v : Value} {t : Ty} (h : TyD D w v t) : IsTy w v t := by
  obtain ⟨lv, kv, h1, h2, h3⟩ := h
  exact ⟨lv, kv, h1, h2.is, h3.is⟩
theorem row_lt {w : World} {b off : Nat} {ks : List Ty} (h0 : 0 < ks.length) (hr : TyRow w b off ks) : b < w.heap.size := by
  cases ks with
  | nil => simp at h0
  | cons t r =>
    obtain ⟨hr1, -⟩ := hr
    obtain ⟨_, _, hc, -⟩ := (TyAt_iff _ _ _ _).1 hr1
    exact cell_lt hc
mutual
theorem TyAt_toD {w : World} : ∀ {b off : Nat} (t : Ty), TyAt w b off t → TyAtD (· < w.heap.size) w b off t
  | b, off, .mk k s n ls ks => by
    simp only [TyAtD, TyAt]
    rintro ⟨lv, kv, h0, h1, h2, h3, h4, h5, A, cap, h6, h7, h8⟩
    exact ⟨lv, kv, h0, h1, h2, h3, h4, h5.toD, A, cap, h6, h7, fun h0 => let ⟨b', off', e, hr⟩ := h8 h0; ⟨b', off', e, row_lt h0 hr, TyRow_toD ks hr⟩⟩
theorem TyRow_toD {w : World} : ∀ {b off : Nat} (ks : List Ty), TyRow w b off ks → TyRowD (· < w.heap.size) w b off ks
  | _, _, [] => by simp [TyRowD]
  | b, off, t :: r => by
    simp only [TyRow, TyRowD]
    rintro ⟨h1, h2⟩
    exact ⟨TyAt_toD t h1, TyRow_toD r h2⟩
end
theorem IsTy.toD {w : World} {v : Value} {t : Ty} (h : IsTy w v t) : TyD (· < w.heap.size) w v t := by
  obtain ⟨lv, kv, h1, h2, A, cap, h3, h4, h5⟩ := h
  exact ⟨lv, kv, h1, h2.toD, A, cap, h3, h4, fun h0 => let ⟨b, off, e, hr⟩ := h5 h0; ⟨b, off, e, row_lt h0 hr, TyRow_toD _ hr⟩⟩

theorem kid_atD {D : Blocks} {w : World} {A : Option Addr} {n cap : Nat} {ks : List Ty} {i : Nat} {t : Ty} (h : TysD D w (.slice A n cap) ks) (hi : ks[i]? = some t) :
    n = ks.length ∧ n ≤ cap ∧ ∃ b off A1 n1 p1 A2 n2 p2, A = some ⟨b, off, none⟩ ∧ D b ∧ w.cell? ⟨b, off + i * 5, none⟩ = some (.int .i64 t.kind) ∧ w.cell? ⟨b, off + i * 5 + 1, none⟩ = some (.int .i64 t.sort) ∧ w.cell? ⟨b, off + i * 5 + 2, none⟩ = some (.string ⟨t.name.toArray⟩) ∧
      w.cell? ⟨b, off + i * 5 + 3, none⟩ = some (.slice A1 n1 p1) ∧ w.cell? ⟨b, off + i * 5 + 4, none⟩ = some (.slice A2 n2 p2) ∧ StrsD D w (.slice A1 n1 p1) t.labels ∧ TysD D w (.slice A2 n2 p2) t.kids := by
  obtain ⟨A', cap', e, hle, h3⟩ := h
  injection e with e1 e2 e3
  subst e1 e2 e3
  have hlt := (List.getElem?_eq_some_iff.1 hi).1
  obtain ⟨b, off, rfl, hd, hr⟩ := h3 (by omega)
  obtain ⟨lv, kv, c0, c1, c2, c3, c4, h5, h6⟩ := (TyAtD_iff _ _ _ _ _).1 (TyRowD_at hr hi)
  have h5' := h5
  have h6' := h6
  obtain ⟨A1, p1, rfl, _⟩ := h5
  obtain ⟨A2, p2, rfl, _⟩ := h6
  exact ⟨rfl, hle, b, off, A1, _, p1, A2, _, p2, rfl, hd, c0, c1, c2, c3, c4, h5', h6'⟩
theorem tyD_of {D : Blocks} {w : World} {t : Ty} {lv kv : Value} (h1 : StrsD D w lv t.labels) (h2 : TysD D w kv t.kids) : TyD D w (.agg #[.int .i64 t.kind, .int .i64 t.sort, .string ⟨t.name.toArray⟩, lv, kv]) t := ⟨lv, kv, rfl, h1, h2⟩

/-- The cells of types, one behind the other. -/
inductive Cells5D (D : Blocks) (w : World) : List Value → List Ty → Prop where
  | nil : Cells5D D w [] []
  | cons (t : Ty) (lv kv : Value) (xs : List Value) (ts : List Ty) (h1 : StrsD D w lv t.labels) (h2 : TysD D w kv t.kids) (h : Cells5D D w xs ts) :
      Cells5D D w (.int .i64 t.kind :: .int .i64 t.sort :: .string ⟨t.name.toArray⟩ :: lv :: kv :: xs) (t :: ts)
theorem Cells5D.append {D : Blocks} {w : World} {xs ys : List Value} {ts us : List Ty} (h : Cells5D D w xs ts) (h' : Cells5D D w ys us) : Cells5D D w (xs ++ ys) (ts ++ us) := by
  induction h with
  | nil => exact h'
  | cons t lv kv xs ts h1 h2 _ ih => exact .cons t lv kv _ _ h1 h2 ih
theorem Cells5D.keep {D D' : Blocks} {w w' : World} {xs : List Value} {ts : List Ty} (h : Cells5D D w xs ts) (hs : Same D w w') (hD : ∀ b, D b → b < w.heap.size → D' b) : Cells5D D' w' xs ts := by
  induction h with
  | nil => exact .nil
  | cons t lv kv xs ts h1 h2 _ ih => exact .cons t lv kv _ _ (h1.keep hs hD) (h2.keep hs hD) ih
theorem Cells5D.row {D : Blocks} {w : World} {b : Nat} {xs : List Value} {ts : List Ty} (h : Cells5D D w xs ts) : ∀ (off : Nat), (∀ j u, xs[j]? = some u → w.cell? ⟨b, off + j, none⟩ = some u) → TyRowD D w b off ts := by
  induction h with
  | nil => intro off _; simp [TyRowD]
  | cons t lv kv xs ts h1 h2 _ ih =>
    intro off hc
    refine ⟨(TyAtD_iff _ _ _ _ _).2 ⟨lv, kv, hc 0 _ rfl, hc 1 _ rfl, hc 2 _ rfl, hc 3 _ rfl, hc 4 _ rfl, h1, h2⟩, ih (off + 5) fun j u hj => ?_⟩
    have := hc (j + 5) u (by simpa using hj)
    rw [show off + 5 + j = off + (j + 5) by omega]
    exact this
theorem own_tysD {D : Blocks} {w : World} {base : Nat} {E : TypeId} {v : Value} {xs : List Value} {ts : List Ty} (h : w.ownsRow base E 5 v ts.length xs) (hc : Cells5D D w xs ts) (hD : ∀ b, base ≤ b → D b) : TysD D w v ts := by
  have hcells := fun g => h.cells (g := g)
  rcases h.2 with ⟨rfl, h0⟩ | ⟨g, cap, cur, rfl, hg, _, hn, _⟩
  · refine ⟨none, 0, by rw [h0], by omega, fun h1 => by omega⟩
  · refine ⟨_, cap, rfl, hn, fun _ => ⟨g, 0, rfl, hD g hg, hc.row 0 fun j u hj => ?_⟩⟩
    have := hcells g rfl j u hj
    rw [Go.WideShapes.add_plain] at this
    exact this

/-- A box of a call: five cells. -/
structure VBox (w : World) (b : Nat) (t : Ty) (lv kv : Value) : Prop where
  c0 : w.cell? ⟨b, 0, none⟩ = some (.int .i64 t.kind)
  c1 : w.cell? ⟨b, 1, none⟩ = some (.int .i64 t.sort)
  c2 : w.cell? ⟨b, 2, none⟩ = some (.string ⟨t.name.toArray⟩)
  c3 : w.cell? ⟨b, 3, none⟩ = some lv
  c4 : w.cell? ⟨b, 4, none⟩ = some kv
  fr : ∀ j, w.frozen? ⟨b, j, none⟩ = false
  lt : b < w.heap.size
theorem VBox.keep {w w' : World} {b B : Nat} {t : Ty} {lv kv : Value} (h : VBox w b t lv kv) (hb : Below B w w') (hB : b < B) : VBox w' b t lv kv :=
  ⟨(hb.cell (p := ⟨b, 0, none⟩) hB).trans h.c0, (hb.cell (p := ⟨b, 1, none⟩) hB).trans h.c1, (hb.cell (p := ⟨b, 2, none⟩) hB).trans h.c2, (hb.cell (p := ⟨b, 3, none⟩) hB).trans h.c3, (hb.cell (p := ⟨b, 4, none⟩) hB).trans h.c4, fun j => (hb.frozen (p := ⟨b, j, none⟩) hB).trans (h.fr j), Nat.lt_of_lt_of_le h.lt hb.size⟩
theorem VBox.far {w : World} {b : Nat} {t : Ty} {lv kv : Value} (h : VBox w b t lv kv) {p : Addr} (hp : p.block ≠ b) (u : Value) : VBox (w.setCell p u) b t lv kv :=
  ⟨(World.cell?_setCell_far w p _ u hp).trans h.c0, (World.cell?_setCell_far w p _ u hp).trans h.c1, (World.cell?_setCell_far w p _ u hp).trans h.c2, (World.cell?_setCell_far w p _ u hp).trans h.c3, (World.cell?_setCell_far w p _ u hp).trans h.c4, fun j => by rw [World.frozen?_setCell]; exact h.fr j, by rw [World.size_setCell]; exact h.lt⟩
theorem VBox.set4 {w : World} {b : Nat} {t : Ty} {lv kv : Value} (h : VBox w b t lv kv) (u : Value) : VBox (w.setCell ⟨b, 4, none⟩ u) b t lv u :=
  ⟨(World.cell?_setCell_other w _ _ u (by simp)).trans h.c0, (World.cell?_setCell_other w _ _ u (by simp)).trans h.c1, (World.cell?_setCell_other w _ _ u (by simp)).trans h.c2, (World.cell?_setCell_other w _ _ u (by simp)).trans h.c3, World.cell?_setCell_same' w _ u (by rw [h.c4]; rfl), fun j => by rw [World.frozen?_setCell]; exact h.fr j, by rw [World.size_setCell]; exact h.lt⟩
/-- A row of types that a call makes, one more behind it. -/
theorem Cells5D.pushed {E : TypeId} {k base : Nat} {B0 : Blocks} {wr w1 w2 w3 : World} {rv v' : Value} {xs news : List Value} {ts : List Ty} {c : Ty} (hown : wr.ownsRow base E 5 rv k xs) (hB : ∀ b, B0 b → b < base) (hbase : base ≤ wr.heap.size)
    (hcells : Cells5D (fun b => Out B0 base b ∧ some b ≠ rv.ownBlock) wr xs ts) (hb1 : Below wr.heap.size wr w1) (hr : Cells5D (Out B0 wr.heap.size) w1 news [c]) (hb2 : Below w1.heap.size w1 w2)
    (hg : w2.grownBy w3 rv.ownBlock) (hv : v'.ownBlock = rv.ownBlock ∨ v'.ownBlock = some w2.heap.size) : Cells5D (fun b => Out B0 base b ∧ some b ≠ v'.ownBlock) w3 (xs ++ news) (ts ++ [c]) := by
  have hs1 : wr.heap.size ≤ w1.heap.size := hb1.size
  have hs2 : w1.heap.size ≤ w2.heap.size := hb2.size
  have hne : ∀ b, b < w1.heap.size → some b ≠ rv.ownBlock → some b ≠ v'.ownBlock := by
    intro b hl h e
    rcases hv with h1 | h1
    · exact h (e.trans h1)
    · have := Option.some.inj (e.trans h1); omega
  refine Cells5D.append (hcells.keep ?_ fun b hd hl => ⟨hd.1, hne b (by omega) hd.2⟩) (hr.keep ?_ fun b hd hl => ?_)
  · intro b hd hl
    rw [hg.block b (by omega) hd.2, hb2.block b (by omega), hb1.block b hl]
  · intro b hd hl
    have : some b ≠ rv.ownBlock := by
      intro e
      obtain ⟨h1, h2⟩ := hown.lt b e.symm
      rcases hd with hd | hd; (have := hB b hd; omega); omega
    rw [hg.block b (by omega) this, hb2.block b hl]
  · have h3 : some b ≠ rv.ownBlock := by
      intro e
      obtain ⟨h1, h2⟩ := hown.lt b e.symm
      rcases hd with hd | hd; (have := hB b hd; omega); omega
    exact ⟨by rcases hd with hd | hd; exact Or.inl hd; exact Or.inr (by omega), hne b hl h3⟩
theorem five_new (w : World) (a b c d e : Value) (E : TypeId) : ∀ j u, [a, b, c, d, e][j]? = some u → (w.alloc (.cells #[a, b, c, d, e] E)).cell? ((⟨w.heap.size, 0, none⟩ : Addr).add j) = some u := by
  intro j u hj
  rw [Go.WideShapes.add_plain]
  match j, hj with
  | 0, hj | 1, hj | 2, hj | 3, hj | 4, hj => simp at hj; subst hj; simp [go_sem]
  | j + 5, hj => simp at hj
theorem VBox.fill {w : World} {b : Nat} {t0 : Ty} {l0 k0 : Value} (h : VBox w b t0 l0 k0) (t : Ty) (lv kv : Value) :
    VBox (((((w.setCell ⟨b, 0, none⟩ (.int .i64 t.kind)).setCell ⟨b, 1, none⟩ (.int .i64 t.sort)).setCell ⟨b, 2, none⟩ (.string ⟨t.name.toArray⟩)).setCell ⟨b, 3, none⟩ lv).setCell ⟨b, 4, none⟩ kv) b t lv kv := by
  obtain ⟨c0, c1, c2, c3, c4, fr, lt⟩ := h
  have ne : ∀ {i j : Nat} {w : World} {u : Value}, i ≠ j → (w.setCell ⟨b, i, none⟩ u).cell? ⟨b, j, none⟩ = w.cell? ⟨b, j, none⟩ := fun h => World.cell?_setCell_other _ _ _ _ (fun e => h (by injection e))
  have eq : ∀ {i : Nat} {w : World} {u x : Value}, w.cell? ⟨b, i, none⟩ = some x → (w.setCell ⟨b, i, none⟩ u).cell? ⟨b, i, none⟩ = some u := fun h => World.cell?_setCell_same' _ _ _ (by rw [h]; rfl)
  refine ⟨?_, ?_, ?_, ?_, ?_, fun j => by simp only [World.frozen?_setCell]; exact fr j, by simp only [World.size_setCell]; exact lt⟩
  · rw [ne (by decide), ne (by decide), ne (by decide), ne (by decide)]; exact eq c0
  · rw [ne (by decide), ne (by decide), ne (by decide)]; exact eq (by rw [ne (by decide)]; exact c1)
  · rw [ne (by decide), ne (by decide)]; exact eq (by rw [ne (by decide), ne (by decide)]; exact c2)
  · rw [ne (by decide)]; exact eq (by rw [ne (by decide), ne (by decide), ne (by decide)]; exact c3)
  · exact eq (by rw [ne (by decide), ne (by decide), ne (by decide), ne (by decide)]; exact c4)
theorem Same.fill {D : Blocks} {w : World} {b : Nat} (h : ¬ D b) (x0 x1 x2 x3 x4 : Value) :
    Same D w (((((w.setCell ⟨b, 0, none⟩ x0).setCell ⟨b, 1, none⟩ x1).setCell ⟨b, 2, none⟩ x2).setCell ⟨b, 3, none⟩ x3).setCell ⟨b, 4, none⟩ x4) := by
  refine Same.trans (Same.trans (Same.trans (Same.trans (Same.set h) ?_ (Same.set h)) ?_ (Same.set h)) ?_ (Same.set h)) ?_ (Same.set h)
  all_goals simp only [World.size_setCell]
  all_goals exact Nat.le_refl _
theorem below_fill {B : Nat} {a w : World} (h : Below B a w) {b : Nat} (hb : B ≤ b) (x0 x1 x2 x3 x4 : Value) :
    Below B a (((((w.setCell ⟨b, 0, none⟩ x0).setCell ⟨b, 1, none⟩ x1).setCell ⟨b, 2, none⟩ x2).setCell ⟨b, 3, none⟩ x3).setCell ⟨b, 4, none⟩ x4) :=
  ((((h.setCell hb _).setCell hb _).setCell hb _).setCell hb _).setCell hb _
end Go.Proofs.YtgnkncfnkjeinaaDoor
namespace Go.Proofs.YtgnkncfnkjeinaaDoor
open Go.RowKit Go.Proofs

/-- A conversation: kind, from, to, sort, name, labels, kids. -/
inductive Gl where
  | mk (kind : Int) (frm rcv : Str) (sort : Int) (name : Str) (labels : List Str) (kids : List Gl)
namespace Gl
def kind : Gl → Int | mk k _ _ _ _ _ _ => k
def frm : Gl → Str | mk _ f _ _ _ _ _ => f
def rcv : Gl → Str | mk _ _ o _ _ _ _ => o
def sort : Gl → Int | mk _ _ _ s _ _ _ => s
def name : Gl → Str | mk _ _ _ _ n _ _ => n
def labels : Gl → List Str | mk _ _ _ _ _ l _ => l
def kids : Gl → List Gl | mk _ _ _ _ _ _ k => k
end Gl
def zeroGl : Gl := .mk 0 [] [] 0 [] [] []
/-- Lengths fit. -/
inductive GFit : Gl → Prop where
  | mk (k : Int) (f o : Str) (s : Int) (n : Str) (ls : List Str) (ks : List Gl) (hf : f.length ≤ maxLen) (ho : o.length ≤ maxLen) (hn : n.length ≤ maxLen) (hl : ls.length ≤ maxLen) (hls : ∀ l ∈ ls, l.length ≤ maxLen) (hc : ks.length ≤ 1000000000000) (hks : ∀ t ∈ ks, GFit t) : GFit (.mk k f o s n ls ks)
theorem GFit.parts {t : Gl} (h : GFit t) : t.frm.length ≤ maxLen ∧ t.rcv.length ≤ maxLen ∧ t.name.length ≤ maxLen ∧ t.labels.length ≤ maxLen ∧ (∀ l ∈ t.labels, l.length ≤ maxLen) ∧ t.kids.length ≤ 1000000000000 ∧ ∀ k ∈ t.kids, GFit k := by
  cases h with
  | mk k f o s n ls ks hf ho hn hl hls hc hks => exact ⟨hf, ho, hn, hl, hls, hc, hks⟩
theorem GFit.kidsLen {t : Gl} (h : GFit t) : t.kids.length ≤ maxLen := Nat.le_trans h.parts.2.2.2.2.2.1 (by decide)
theorem gfit_zero : GFit zeroGl := .mk 0 [] [] 0 [] [] [] (by simp) (by simp) (by simp) (by simp) (by simp) (by simp) (by simp)

mutual
def GlAt (D : Blocks) (w : World) (b off : Nat) : Gl → Prop
  | .mk k f o s n ls ks => ∃ lv kv, w.cell? ⟨b, off, none⟩ = some (.int .i64 k) ∧ w.cell? ⟨b, off + 1, none⟩ = some (.string ⟨f.toArray⟩) ∧ w.cell? ⟨b, off + 2, none⟩ = some (.string ⟨o.toArray⟩) ∧ w.cell? ⟨b, off + 3, none⟩ = some (.int .i64 s) ∧ w.cell? ⟨b, off + 4, none⟩ = some (.string ⟨n.toArray⟩) ∧ w.cell? ⟨b, off + 5, none⟩ = some lv ∧ w.cell? ⟨b, off + 6, none⟩ = some kv ∧
      StrsD D w lv ls ∧ ∃ A cap, kv = .slice A ks.length cap ∧ ks.length ≤ cap ∧ (0 < ks.length → ∃ b' off', A = some ⟨b', off', none⟩ ∧ D b' ∧ GlRow D w b' off' ks)
def GlRow (D : Blocks) (w : World) (b off : Nat) : List Gl → Prop
  | [] => True
  | t :: r => GlAt D w b off t ∧ GlRow D w b (off + 7) r
end
/-- A slice of conversations. -/
def Gls (D : Blocks) (w : World) (v : Value) (ks : List Gl) : Prop := ∃ A cap, v = .slice A ks.length cap ∧ ks.length ≤ cap ∧ (0 < ks.length → ∃ b off, A = some ⟨b, off, none⟩ ∧ D b ∧ GlRow D w b off ks)
/-- A conversation by value. -/
def GlV (D : Blocks) (w : World) (v : Value) (t : Gl) : Prop := ∃ lv kv, v = .agg #[.int .i64 t.kind, .string ⟨t.frm.toArray⟩, .string ⟨t.rcv.toArray⟩, .int .i64 t.sort, .string ⟨t.name.toArray⟩, lv, kv] ∧ StrsD D w lv t.labels ∧ Gls D w kv t.kids
theorem GlAt_iff (D : Blocks) (w : World) (b off : Nat) (t : Gl) : GlAt D w b off t ↔ ∃ lv kv, w.cell? ⟨b, off, none⟩ = some (.int .i64 t.kind) ∧ w.cell? ⟨b, off + 1, none⟩ = some (.string ⟨t.frm.toArray⟩) ∧ w.cell? ⟨b, off + 2, none⟩ = some (.string ⟨t.rcv.toArray⟩) ∧ w.cell? ⟨b, off + 3, none⟩ = some (.int .i64 t.sort) ∧ w.cell? ⟨b, off + 4, none⟩ = some (.string ⟨t.name.toArray⟩) ∧ w.cell? ⟨b, off + 5, none⟩ = some lv ∧ w.cell? ⟨b, off + 6, none⟩ = some kv ∧
    StrsD D w lv t.labels ∧ Gls D w kv t.kids := by
  cases t with
  | mk k f o s n ls ks => simp only [GlAt, Gls, Gl.kind, Gl.frm, Gl.rcv, Gl.sort, Gl.name, Gl.labels, Gl.kids]
theorem GlRow_at {D : Blocks} {w : World} {b : Nat} : ∀ {ks : List Gl} {off i : Nat} {t : Gl}, GlRow D w b off ks → ks[i]? = some t → GlAt D w b (off + i * 7) t := by
  intro ks
  induction ks with
  | nil => intro off i t _ h; simp at h
  | cons x r ih =>
    intro off i t h hi
    simp only [GlRow] at h
    match i, hi with
    | 0, hi => simp at hi; subst hi; simpa using h.1
    | i + 1, hi =>
      have := ih h.2 (by simpa using hi)
      rw [show off + (i + 1) * 7 = off + 7 + i * 7 by omega]
      exact this
mutual
theorem GlAt_keep {D D' : Blocks} {w w' : World} (hs : Same D w w') (hD : ∀ b, D b → b < w.heap.size → D' b) : ∀ {b off : Nat} (t : Gl), D b → GlAt D w b off t → GlAt D' w' b off t
  | b, off, .mk k f o s n ls ks => by
    simp only [GlAt]
    rintro hd ⟨lv, kv, h0, h1, h2, h3, h4, h5, h6, h7, A, cap, h8, h9, h10⟩
    refine ⟨lv, kv, hs.cell hd h0, hs.cell hd h1, hs.cell hd h2, hs.cell hd h3, hs.cell hd h4, hs.cell hd h5, hs.cell hd h6, h7.keep hs hD, A, cap, h8, h9, fun h0 => ?_⟩
    obtain ⟨b', off', e, hd', hr⟩ := h10 h0
    refine ⟨b', off', e, hD b' hd' ?_, GlRow_keep hs hD ks hd' hr⟩
    cases ks with
    | nil => simp at h0
    | cons t r =>
      obtain ⟨hr1, -⟩ := hr
      obtain ⟨_, _, hc, -⟩ := (GlAt_iff _ _ _ _ _).1 hr1
      exact cell_lt hc
theorem GlRow_keep {D D' : Blocks} {w w' : World} (hs : Same D w w') (hD : ∀ b, D b → b < w.heap.size → D' b) : ∀ {b off : Nat} (ks : List Gl), D b → GlRow D w b off ks → GlRow D' w' b off ks
  | _, _, [] => by simp [GlRow]
  | b, off, t :: r => by
    simp only [GlRow]
    rintro hd ⟨h1, h2⟩
    exact ⟨GlAt_keep hs hD t hd h1, GlRow_keep hs hD r hd h2⟩
end
theorem Gls.keep {D D' : Blocks} {w w' : World} {v : Value} {ks : List Gl} (h : Gls D w v ks) (hs : Same D w w') (hD : ∀ b, D b → b < w.heap.size → D' b) : Gls D' w' v ks := by
  obtain ⟨A, cap, h1, h2, h3⟩ := h
  refine ⟨A, cap, h1, h2, fun h0 => ?_⟩
  obtain ⟨b, off, e, hd, hr⟩ := h3 h0
  refine ⟨b, off, e, hD b hd ?_, GlRow_keep hs hD ks hd hr⟩
  cases ks with
  | nil => simp at h0
  | cons t r =>
    obtain ⟨hr1, -⟩ := hr
    obtain ⟨_, _, hc, -⟩ := (GlAt_iff _ _ _ _ _).1 hr1
    exact cell_lt hc
theorem GlV.keep {D D' : Blocks} {w w' : World} {v : Value} {t : Gl} (h : GlV D w v t) (hs : Same D w w') (hD : ∀ b, D b → b < w.heap.size → D' b) : GlV D' w' v t := by
  obtain ⟨lv, kv, h1, h2, h3⟩ := h
  exact ⟨lv, kv, h1, h2.keep hs hD, h3.keep hs hD⟩
theorem GlV.below {D : Blocks} {w w' : World} {v : Value} {t : Gl} (h : GlV D w v t) (hb : Below w.heap.size w w') : GlV D w' v t := h.keep (Same.below hb) fun _ h _ => h
theorem Gls.below {D : Blocks} {w w' : World} {v : Value} {t : List Gl} (h : Gls D w v t) (hb : Below w.heap.size w w') : Gls D w' v t := h.keep (Same.below hb) fun _ h _ => h
theorem GlV.all {D : Blocks} {w : World} {v : Value} {t : Gl} (h : GlV D w v t) : GlV All w v t := h.keep (Same.refl _ _) fun _ _ _ => trivial
theorem GlV.here {D : Blocks} {w : World} {v : Value} {t : Gl} (h : GlV D w v t) : GlV (· < w.heap.size) w v t := h.keep (Same.refl _ _) fun _ _ h => h
theorem GlV.one' {D : Blocks} {w : World} {v : Value} {t : Gl} (h : GlV D w v t) : ∃ A n c A' n' c', v = .agg #[.int .i64 t.kind, .string ⟨t.frm.toArray⟩, .string ⟨t.rcv.toArray⟩, .int .i64 t.sort, .string ⟨t.name.toArray⟩, .slice A n c, .slice A' n' c'] := by
  obtain ⟨lv, kv, rfl, ⟨A, c, rfl, -, -⟩, ⟨A', c', rfl, -, -⟩⟩ := h
  exact ⟨_, _, _, _, _, _, rfl⟩
theorem Gls.one {D : Blocks} {w : World} {v : Value} {l : List Gl} (h : Gls D w v l) : v.oneCell' = true := by obtain ⟨A, cap, rfl, _⟩ := h; rfl
/-- One of the kids. -/
theorem gkid_at {D : Blocks} {w : World} {A : Option Addr} {n cap : Nat} {ks : List Gl} {i : Nat} {t : Gl} (h : Gls D w (.slice A n cap) ks) (hi : ks[i]? = some t) :
    n = ks.length ∧ n ≤ cap ∧ ∃ b off A1 n1 p1 A2 n2 p2, A = some ⟨b, off, none⟩ ∧ D b ∧ w.cell? ⟨b, off + i * 7, none⟩ = some (.int .i64 t.kind) ∧ w.cell? ⟨b, off + i * 7 + 1, none⟩ = some (.string ⟨t.frm.toArray⟩) ∧ w.cell? ⟨b, off + i * 7 + 2, none⟩ = some (.string ⟨t.rcv.toArray⟩) ∧ w.cell? ⟨b, off + i * 7 + 3, none⟩ = some (.int .i64 t.sort) ∧ w.cell? ⟨b, off + i * 7 + 4, none⟩ = some (.string ⟨t.name.toArray⟩) ∧
      w.cell? ⟨b, off + i * 7 + 5, none⟩ = some (.slice A1 n1 p1) ∧ w.cell? ⟨b, off + i * 7 + 6, none⟩ = some (.slice A2 n2 p2) ∧ StrsD D w (.slice A1 n1 p1) t.labels ∧ Gls D w (.slice A2 n2 p2) t.kids := by
  obtain ⟨A', cap', e, hle, h3⟩ := h
  injection e with e1 e2 e3
  subst e1 e2 e3
  have hlt := (List.getElem?_eq_some_iff.1 hi).1
  obtain ⟨b, off, rfl, hd, hr⟩ := h3 (by omega)
  obtain ⟨lv, kv, c0, c1, c2, c3, c4, c5, c6, h5, h6⟩ := (GlAt_iff _ _ _ _ _).1 (GlRow_at hr hi)
  have h5' := h5
  have h6' := h6
  obtain ⟨A1, p1, rfl, _⟩ := h5
  obtain ⟨A2, p2, rfl, _⟩ := h6
  exact ⟨rfl, hle, b, off, A1, _, p1, A2, _, p2, rfl, hd, c0, c1, c2, c3, c4, c5, c6, h5', h6'⟩
theorem glV_of {D : Blocks} {w : World} {t : Gl} {lv kv : Value} (h1 : StrsD D w lv t.labels) (h2 : Gls D w kv t.kids) : GlV D w (.agg #[.int .i64 t.kind, .string ⟨t.frm.toArray⟩, .string ⟨t.rcv.toArray⟩, .int .i64 t.sort, .string ⟨t.name.toArray⟩, lv, kv]) t := ⟨lv, kv, rfl, h1, h2⟩

/-- The cells of conversations, one behind the other. -/
inductive Cells7 (D : Blocks) (w : World) : List Value → List Gl → Prop where
  | nil : Cells7 D w [] []
  | cons (t : Gl) (lv kv : Value) (xs : List Value) (ts : List Gl) (h1 : StrsD D w lv t.labels) (h2 : Gls D w kv t.kids) (h : Cells7 D w xs ts) :
      Cells7 D w (.int .i64 t.kind :: .string ⟨t.frm.toArray⟩ :: .string ⟨t.rcv.toArray⟩ :: .int .i64 t.sort :: .string ⟨t.name.toArray⟩ :: lv :: kv :: xs) (t :: ts)
theorem Cells7.length {D : Blocks} {w : World} {xs : List Value} {ts : List Gl} (h : Cells7 D w xs ts) : xs.length = ts.length * 7 := by
  induction h with
  | nil => rfl
  | cons => simp only [List.length_cons]; omega
theorem Cells7.one {D : Blocks} {w : World} {xs : List Value} {ts : List Gl} (h : Cells7 D w xs ts) : ∀ u ∈ xs, u.oneCell' = true := by
  induction h with
  | nil => simp
  | cons t lv kv xs ts h1 h2 _ ih =>
    intro u hu
    simp only [List.mem_cons] at hu
    rcases hu with rfl | rfl | rfl | rfl | rfl | rfl | rfl | hu
    · rfl
    · rfl
    · rfl
    · rfl
    · rfl
    · exact h1.one
    · exact h2.one
    · exact ih u hu
theorem Cells7.append {D : Blocks} {w : World} {xs ys : List Value} {ts us : List Gl} (h : Cells7 D w xs ts) (h' : Cells7 D w ys us) : Cells7 D w (xs ++ ys) (ts ++ us) := by
  induction h with
  | nil => exact h'
  | cons t lv kv xs ts h1 h2 _ ih => exact .cons t lv kv _ _ h1 h2 ih
theorem Cells7.keep {D D' : Blocks} {w w' : World} {xs : List Value} {ts : List Gl} (h : Cells7 D w xs ts) (hs : Same D w w') (hD : ∀ b, D b → b < w.heap.size → D' b) : Cells7 D' w' xs ts := by
  induction h with
  | nil => exact .nil
  | cons t lv kv xs ts h1 h2 _ ih => exact .cons t lv kv _ _ (h1.keep hs hD) (h2.keep hs hD) ih
theorem Cells7.row {D : Blocks} {w : World} {b : Nat} {xs : List Value} {ts : List Gl} (h : Cells7 D w xs ts) : ∀ (off : Nat), (∀ j u, xs[j]? = some u → w.cell? ⟨b, off + j, none⟩ = some u) → GlRow D w b off ts := by
  induction h with
  | nil => intro off _; simp [GlRow]
  | cons t lv kv xs ts h1 h2 _ ih =>
    intro off hc
    refine ⟨(GlAt_iff _ _ _ _ _).2 ⟨lv, kv, hc 0 _ rfl, hc 1 _ rfl, hc 2 _ rfl, hc 3 _ rfl, hc 4 _ rfl, hc 5 _ rfl, hc 6 _ rfl, h1, h2⟩, ih (off + 7) fun j u hj => ?_⟩
    have := hc (j + 7) u (by simpa using hj)
    rw [show off + 7 + j = off + (j + 7) by omega]
    exact this
theorem own_gls {D : Blocks} {w : World} {base : Nat} {E : TypeId} {v : Value} {xs : List Value} {ts : List Gl} (h : w.ownsRow base E 7 v ts.length xs) (hc : Cells7 D w xs ts) (hD : ∀ b, base ≤ b → D b) : Gls D w v ts := by
  have hcells := fun g => h.cells (g := g)
  rcases h.2 with ⟨rfl, h0⟩ | ⟨g, cap, cur, rfl, hg, _, hn, _⟩
  · refine ⟨none, 0, by rw [h0], by omega, fun h1 => by omega⟩
  · refine ⟨_, cap, rfl, hn, fun _ => ⟨g, 0, rfl, hD g hg, hc.row 0 fun j u hj => ?_⟩⟩
    have := hcells g rfl j u hj
    rw [Go.WideShapes.add_plain] at this
    exact this

/-- A box of a call: seven cells. -/
structure GBox (w : World) (b : Nat) (t : Gl) (lv kv : Value) : Prop where
  c0 : w.cell? ⟨b, 0, none⟩ = some (.int .i64 t.kind)
  c1 : w.cell? ⟨b, 1, none⟩ = some (.string ⟨t.frm.toArray⟩)
  c2 : w.cell? ⟨b, 2, none⟩ = some (.string ⟨t.rcv.toArray⟩)
  c3 : w.cell? ⟨b, 3, none⟩ = some (.int .i64 t.sort)
  c4 : w.cell? ⟨b, 4, none⟩ = some (.string ⟨t.name.toArray⟩)
  c5 : w.cell? ⟨b, 5, none⟩ = some lv
  c6 : w.cell? ⟨b, 6, none⟩ = some kv
  fr : ∀ j, w.frozen? ⟨b, j, none⟩ = false
  lt : b < w.heap.size
theorem GBox.keep {w w' : World} {b B : Nat} {t : Gl} {lv kv : Value} (h : GBox w b t lv kv) (hb : Below B w w') (hB : b < B) : GBox w' b t lv kv :=
  ⟨(hb.cell (p := ⟨b, 0, none⟩) hB).trans h.c0, (hb.cell (p := ⟨b, 1, none⟩) hB).trans h.c1, (hb.cell (p := ⟨b, 2, none⟩) hB).trans h.c2, (hb.cell (p := ⟨b, 3, none⟩) hB).trans h.c3, (hb.cell (p := ⟨b, 4, none⟩) hB).trans h.c4, (hb.cell (p := ⟨b, 5, none⟩) hB).trans h.c5, (hb.cell (p := ⟨b, 6, none⟩) hB).trans h.c6, fun j => (hb.frozen (p := ⟨b, j, none⟩) hB).trans (h.fr j), Nat.lt_of_lt_of_le h.lt hb.size⟩
theorem GBox.far {w : World} {b : Nat} {t : Gl} {lv kv : Value} (h : GBox w b t lv kv) {p : Addr} (hp : p.block ≠ b) (u : Value) : GBox (w.setCell p u) b t lv kv :=
  ⟨(World.cell?_setCell_far w p _ u hp).trans h.c0, (World.cell?_setCell_far w p _ u hp).trans h.c1, (World.cell?_setCell_far w p _ u hp).trans h.c2, (World.cell?_setCell_far w p _ u hp).trans h.c3, (World.cell?_setCell_far w p _ u hp).trans h.c4, (World.cell?_setCell_far w p _ u hp).trans h.c5, (World.cell?_setCell_far w p _ u hp).trans h.c6, fun j => by rw [World.frozen?_setCell]; exact h.fr j, by rw [World.size_setCell]; exact h.lt⟩
theorem GBox.drewN {w : World} {b : Nat} {t : Gl} {lv kv : Value} (h : GBox w b t lv kv) (n : Nat) : GBox (w.drewN n) b t lv kv := ⟨h.c0, h.c1, h.c2, h.c3, h.c4, h.c5, h.c6, h.fr, h.lt⟩
theorem GBox.grown {w w' : World} {b : Nat} {row : Option Nat} {t : Gl} {lv kv : Value} (h : GBox w b t lv kv) (hg : w.grownBy w' row) (hb : some b ≠ row) : GBox w' b t lv kv := by
  have hc : ∀ j, w'.cell? ⟨b, j, none⟩ = w.cell? ⟨b, j, none⟩ := fun j => World.cell?_of_block (a := ⟨b, j, none⟩) (hg.block b h.lt hb)
  have hf : ∀ j, w'.frozen? ⟨b, j, none⟩ = w.frozen? ⟨b, j, none⟩ := fun j => World.frozen?_of_block (a := ⟨b, j, none⟩) (hg.block b h.lt hb)
  exact ⟨(hc 0).trans h.c0, (hc 1).trans h.c1, (hc 2).trans h.c2, (hc 3).trans h.c3, (hc 4).trans h.c4, (hc 5).trans h.c5, (hc 6).trans h.c6, fun j => (hf j).trans (h.fr j), Nat.lt_of_lt_of_le h.lt hg.size⟩
section
variable {w : World} {b : Nat}
end
/-- One cell of a box is written. -/
theorem GBox.set0 {w : World} {b : Nat} {t : Gl} {lv kv : Value} (h : GBox w b t lv kv) (k : Int) : GBox (w.setCell ⟨b, 0, none⟩ (.int .i64 k)) b (.mk k t.frm t.rcv t.sort t.name t.labels t.kids) lv kv :=
  ⟨cell_eq h.c0, (cell_ne (by decide)).trans h.c1, (cell_ne (by decide)).trans h.c2, (cell_ne (by decide)).trans h.c3, (cell_ne (by decide)).trans h.c4, (cell_ne (by decide)).trans h.c5, (cell_ne (by decide)).trans h.c6, fun j => by rw [World.frozen?_setCell]; exact h.fr j, by rw [World.size_setCell]; exact h.lt⟩
theorem GBox.set1 {w : World} {b : Nat} {t : Gl} {lv kv : Value} (h : GBox w b t lv kv) (x : Str) : GBox (w.setCell ⟨b, 1, none⟩ (.string ⟨x.toArray⟩)) b (.mk t.kind x t.rcv t.sort t.name t.labels t.kids) lv kv :=
  ⟨(cell_ne (by decide)).trans h.c0, cell_eq h.c1, (cell_ne (by decide)).trans h.c2, (cell_ne (by decide)).trans h.c3, (cell_ne (by decide)).trans h.c4, (cell_ne (by decide)).trans h.c5, (cell_ne (by decide)).trans h.c6, fun j => by rw [World.frozen?_setCell]; exact h.fr j, by rw [World.size_setCell]; exact h.lt⟩
theorem GBox.set2 {w : World} {b : Nat} {t : Gl} {lv kv : Value} (h : GBox w b t lv kv) (x : Str) : GBox (w.setCell ⟨b, 2, none⟩ (.string ⟨x.toArray⟩)) b (.mk t.kind t.frm x t.sort t.name t.labels t.kids) lv kv :=
  ⟨(cell_ne (by decide)).trans h.c0, (cell_ne (by decide)).trans h.c1, cell_eq h.c2, (cell_ne (by decide)).trans h.c3, (cell_ne (by decide)).trans h.c4, (cell_ne (by decide)).trans h.c5, (cell_ne (by decide)).trans h.c6, fun j => by rw [World.frozen?_setCell]; exact h.fr j, by rw [World.size_setCell]; exact h.lt⟩
theorem GBox.set3 {w : World} {b : Nat} {t : Gl} {lv kv : Value} (h : GBox w b t lv kv) (s : Int) : GBox (w.setCell ⟨b, 3, none⟩ (.int .i64 s)) b (.mk t.kind t.frm t.rcv s t.name t.labels t.kids) lv kv :=
  ⟨(cell_ne (by decide)).trans h.c0, (cell_ne (by decide)).trans h.c1, (cell_ne (by decide)).trans h.c2, cell_eq h.c3, (cell_ne (by decide)).trans h.c4, (cell_ne (by decide)).trans h.c5, (cell_ne (by decide)).trans h.c6, fun j => by rw [World.frozen?_setCell]; exact h.fr j, by rw [World.size_setCell]; exact h.lt⟩
theorem GBox.set4 {w : World} {b : Nat} {t : Gl} {lv kv : Value} (h : GBox w b t lv kv) (x : Str) : GBox (w.setCell ⟨b, 4, none⟩ (.string ⟨x.toArray⟩)) b (.mk t.kind t.frm t.rcv t.sort x t.labels t.kids) lv kv :=
  ⟨(cell_ne (by decide)).trans h.c0, (cell_ne (by decide)).trans h.c1, (cell_ne (by decide)).trans h.c2, (cell_ne (by decide)).trans h.c3, cell_eq h.c4, (cell_ne (by decide)).trans h.c5, (cell_ne (by decide)).trans h.c6, fun j => by rw [World.frozen?_setCell]; exact h.fr j, by rw [World.size_setCell]; exact h.lt⟩
theorem GBox.set5 {w : World} {b : Nat} {t : Gl} {lv kv : Value} (h : GBox w b t lv kv) (v : Value) (ls : List Str) : GBox (w.setCell ⟨b, 5, none⟩ v) b (.mk t.kind t.frm t.rcv t.sort t.name ls t.kids) v kv :=
  ⟨(cell_ne (by decide)).trans h.c0, (cell_ne (by decide)).trans h.c1, (cell_ne (by decide)).trans h.c2, (cell_ne (by decide)).trans h.c3, (cell_ne (by decide)).trans h.c4, cell_eq h.c5, (cell_ne (by decide)).trans h.c6, fun j => by rw [World.frozen?_setCell]; exact h.fr j, by rw [World.size_setCell]; exact h.lt⟩
theorem GBox.set6 {w : World} {b : Nat} {t : Gl} {lv kv : Value} (h : GBox w b t lv kv) (v : Value) (ks : List Gl) : GBox (w.setCell ⟨b, 6, none⟩ v) b (.mk t.kind t.frm t.rcv t.sort t.name t.labels ks) lv v :=
  ⟨(cell_ne (by decide)).trans h.c0, (cell_ne (by decide)).trans h.c1, (cell_ne (by decide)).trans h.c2, (cell_ne (by decide)).trans h.c3, (cell_ne (by decide)).trans h.c4, (cell_ne (by decide)).trans h.c5, cell_eq h.c6, fun j => by rw [World.frozen?_setCell]; exact h.fr j, by rw [World.size_setCell]; exact h.lt⟩
theorem GBox.fill {w : World} {b : Nat} {t0 : Gl} {l0 k0 : Value} (h : GBox w b t0 l0 k0) (t : Gl) (lv kv : Value) :
    GBox (((((((w.setCell ⟨b, 0, none⟩ (.int .i64 t.kind)).setCell ⟨b, 1, none⟩ (.string ⟨t.frm.toArray⟩)).setCell ⟨b, 2, none⟩ (.string ⟨t.rcv.toArray⟩)).setCell ⟨b, 3, none⟩ (.int .i64 t.sort)).setCell ⟨b, 4, none⟩ (.string ⟨t.name.toArray⟩)).setCell ⟨b, 5, none⟩ lv).setCell ⟨b, 6, none⟩ kv) b t lv kv := by
  have := ((((((h.set0 t.kind).set1 t.frm).set2 t.rcv).set3 t.sort).set4 t.name).set5 lv t.labels).set6 kv t.kids
  cases t
  exact this
theorem Same.fill7 {D : Blocks} {w : World} {b : Nat} (h : ¬ D b) (x0 x1 x2 x3 x4 x5 x6 : Value) :
    Same D w (((((((w.setCell ⟨b, 0, none⟩ x0).setCell ⟨b, 1, none⟩ x1).setCell ⟨b, 2, none⟩ x2).setCell ⟨b, 3, none⟩ x3).setCell ⟨b, 4, none⟩ x4).setCell ⟨b, 5, none⟩ x5).setCell ⟨b, 6, none⟩ x6) := by
  have hsz : ∀ (w : World) (a : Addr) (u : Value), w.heap.size ≤ (w.setCell a u).heap.size := fun w a u => by rw [World.size_setCell]; exact Nat.le_refl _
  refine Same.trans (Same.trans (Same.fill h x0 x1 x2 x3 x4) ?_ (Same.set h)) ?_ (Same.set h)
  all_goals simp only [World.size_setCell]
  all_goals exact Nat.le_refl _
theorem below_fill7 {B : Nat} {a w : World} (h : Below B a w) {b : Nat} (hb : B ≤ b) (x0 x1 x2 x3 x4 x5 x6 : Value) :
    Below B a (((((((w.setCell ⟨b, 0, none⟩ x0).setCell ⟨b, 1, none⟩ x1).setCell ⟨b, 2, none⟩ x2).setCell ⟨b, 3, none⟩ x3).setCell ⟨b, 4, none⟩ x4).setCell ⟨b, 5, none⟩ x5).setCell ⟨b, 6, none⟩ x6) :=
  ((((((h.setCell hb _).setCell hb _).setCell hb _).setCell hb _).setCell hb _).setCell hb _).setCell hb _
theorem new_gbox (w : World) (E : TypeId) : GBox (w.alloc (.cells #[.int .i64 0, .string ⟨#[]⟩, .string ⟨#[]⟩, .int .i64 0, .string ⟨#[]⟩, .slice none 0 0, .slice none 0 0] E)) w.heap.size zeroGl (.slice none 0 0) (.slice none 0 0) :=
  ⟨by simp [go_sem]; rfl, by simp [go_sem]; rfl, by simp [go_sem]; rfl, by simp [go_sem]; rfl, by simp [go_sem]; rfl, by simp [go_sem], by simp [go_sem], fun j => by simp [go_sem], by simp⟩
theorem no_gls (D : Blocks) (w : World) : Gls D w (.slice none 0 0) [] := ⟨none, 0, rfl, Nat.le_refl _, fun h => by simp at h⟩
theorem zero_gl (D : Blocks) (w : World) : GlV D w (.agg #[.int .i64 0, .string ⟨#[]⟩, .string ⟨#[]⟩, .int .i64 0, .string ⟨#[]⟩, .slice none 0 0, .slice none 0 0]) zeroGl := ⟨_, _, rfl, no_strs' _ _, no_gls _ _⟩
set_option maxRecDepth 100000
theorem rt_gls : RowType Tryd.prog 50 52 7 112 := .mk' (z := .agg #[.int .i64 0, .string ⟨#[]⟩, .string ⟨#[]⟩, .int .i64 0, .string ⟨#[]⟩, .slice none 0 0, .slice none 0 0]) Tryd.underlying50 (by kernel_rfl) rfl (by decide)
theorem new_gval (w : World) (t : Gl) (lv kv : Value) (E : TypeId) : GBox (w.alloc (.cells #[.int .i64 t.kind, .string ⟨t.frm.toArray⟩, .string ⟨t.rcv.toArray⟩, .int .i64 t.sort, .string ⟨t.name.toArray⟩, lv, kv] E)) w.heap.size t lv kv :=
  ⟨by simp [go_sem], by simp [go_sem], by simp [go_sem], by simp [go_sem], by simp [go_sem], by simp [go_sem], by simp [go_sem], fun j => by simp [go_sem], by simp⟩
end Go.Proofs.YtgnkncfnkjeinaaDoor
