/-
  Conversations (api.Global) as trees, and how they lie in memory, with the blocks in which they lie (D).
-/
import Derived.Test.YtcacembpegoghaaDoorTyD
import Derived.Test.YtcacembpegoghaaDoorTyOpen
namespace Go.Proofs.YtcacembpegoghaaDoor
open Go.RowKit Go.Proofs

/-- A conversation: kind, from, to, sort, name, labels, kids. -/
inductive Gl where
  | mk (kind : Int) (frm rcv : Str) (sort : Int) (name : Str) (labels : List Str) (kids : List Gl)
namespace Gl
def kind : Gl → Int | mk k _ _ _ _ _ _ => k
def frm : Gl → Str | mk _ f _ _ _ _ _ => f
def rcv : Gl → Str | mk _ _ o _ _ _ _ => o
def sort : Gl → Int | mk _ _ _ s _ _ _ => s
def name : Gl → Str | mk _ _ _ _ n _ _ => n
def labels : Gl → List Str | mk _ _ _ _ _ l _ => l
def kids : Gl → List Gl | mk _ _ _ _ _ _ k => k
end Gl
def zeroGl : Gl := .mk 0 [] [] 0 [] [] []
/-- Lengths fit. -/
inductive GFit : Gl → Prop where
  | mk (k : Int) (f o : Str) (s : Int) (n : Str) (ls : List Str) (ks : List Gl) (hf : f.length ≤ maxLen) (ho : o.length ≤ maxLen) (hn : n.length ≤ maxLen) (hl : ls.length ≤ maxLen) (hls : ∀ l ∈ ls, l.length ≤ maxLen) (hc : ks.length ≤ 1000000000000) (hks : ∀ t ∈ ks, GFit t) : GFit (.mk k f o s n ls ks)
theorem GFit.parts {t : Gl} (h : GFit t) : t.frm.length ≤ maxLen ∧ t.rcv.length ≤ maxLen ∧ t.name.length ≤ maxLen ∧ t.labels.length ≤ maxLen ∧ (∀ l ∈ t.labels, l.length ≤ maxLen) ∧ t.kids.length ≤ 1000000000000 ∧ ∀ k ∈ t.kids, GFit k := by
  cases h with
  | mk k f o s n ls ks hf ho hn hl hls hc hks => exact ⟨hf, ho, hn, hl, hls, hc, hks⟩
theorem GFit.kidsLen {t : Gl} (h : GFit t) : t.kids.length ≤ maxLen := Nat.le_trans h.parts.2.2.2.2.2.1 (by decide)
theorem gfit_zero : GFit zeroGl := .mk 0 [] [] 0 [] [] [] (by simp) (by simp) (by simp) (by simp) (by simp) (by simp) (by simp)

mutual
def GlAt (D : Blocks) (w : World) (b off : Nat) : Gl → Prop
  | .mk k f o s n ls ks => ∃ lv kv, w.cell? ⟨b, off, none⟩ = some (.int .i64 k) ∧ w.cell? ⟨b, off + 1, none⟩ = some (.string ⟨f.toArray⟩) ∧ w.cell? ⟨b, off + 2, none⟩ = some (.string ⟨o.toArray⟩) ∧ w.cell? ⟨b, off + 3, none⟩ = some (.int .i64 s) ∧ w.cell? ⟨b, off + 4, none⟩ = some (.string ⟨n.toArray⟩) ∧ w.cell? ⟨b, off + 5, none⟩ = some lv ∧ w.cell? ⟨b, off + 6, none⟩ = some kv ∧
      StrsD D w lv ls ∧ ∃ A cap, kv = .slice A ks.length cap ∧ ks.length ≤ cap ∧ (0 < ks.length → ∃ b' off', A = some ⟨b', off', none⟩ ∧ D b' ∧ GlRow D w b' off' ks)
def GlRow (D : Blocks) (w : World) (b off : Nat) : List Gl → Prop
  | [] => True
  | t :: r => GlAt D w b off t ∧ GlRow D w b (off + 7) r
end
/-- A slice of conversations. -/
def Gls (D : Blocks) (w : World) (v : Value) (ks : List Gl) : Prop := ∃ A cap, v = .slice A ks.length cap ∧ ks.length ≤ cap ∧ (0 < ks.length → ∃ b off, A = some ⟨b, off, none⟩ ∧ D b ∧ GlRow D w b off ks)
/-- A conversation by value. -/
def GlV (D : Blocks) (w : World) (v : Value) (t : Gl) : Prop := ∃ lv kv, v = .agg #[.int .i64 t.kind, .string ⟨t.frm.toArray⟩, .string ⟨t.rcv.toArray⟩, .int .i64 t.sort, .string ⟨t.name.toArray⟩, lv, kv] ∧ StrsD D w lv t.labels ∧ Gls D w kv t.kids
/-- All blocks. -/
abbrev All : Blocks := fun _ => True

theorem GlAt_iff (D : Blocks) (w : World) (b off : Nat) (t : Gl) : GlAt D w b off t ↔ ∃ lv kv, w.cell? ⟨b, off, none⟩ = some (.int .i64 t.kind) ∧ w.cell? ⟨b, off + 1, none⟩ = some (.string ⟨t.frm.toArray⟩) ∧ w.cell? ⟨b, off + 2, none⟩ = some (.string ⟨t.rcv.toArray⟩) ∧ w.cell? ⟨b, off + 3, none⟩ = some (.int .i64 t.sort) ∧ w.cell? ⟨b, off + 4, none⟩ = some (.string ⟨t.name.toArray⟩) ∧ w.cell? ⟨b, off + 5, none⟩ = some lv ∧ w.cell? ⟨b, off + 6, none⟩ = some kv ∧
    StrsD D w lv t.labels ∧ Gls D w kv t.kids := by
  cases t with
  | mk k f o s n ls ks => simp only [GlAt, Gls, Gl.kind, Gl.frm, Gl.rcv, Gl.sort, Gl.name, Gl.labels, Gl.kids]
theorem GlRow_at {D : Blocks} {w : World} {b : Nat} : ∀ {ks : List Gl} {off i : Nat} {t : Gl}, GlRow D w b off ks → ks[i]? = some t → GlAt D w b (off + i * 7) t := by
  intro ks
  induction ks with
  | nil => intro off i t _ h; simp at h
  | cons x r ih =>
    intro off i t h hi
    simp only [GlRow] at h
    match i, hi with
    | 0, hi => simp at hi; subst hi; simpa using h.1
    | i + 1, hi =>
      have := ih h.2 (by simpa using hi)
      rw [show off + (i + 1) * 7 = off + 7 + i * 7 by omega]
      exact this
mutual
theorem GlAt_keep {D D' : Blocks} {w w' : World} (hs : Same D w w') (hD : ∀ b, D b → b < w.heap.size → D' b) : ∀ {b off : Nat} (t : Gl), D b → GlAt D w b off t → GlAt D' w' b off t
  | b, off, .mk k f o s n ls ks => by
    simp only [GlAt]
    rintro hd ⟨lv, kv, h0, h1, h2, h3, h4, h5, h6, h7, A, cap, h8, h9, h10⟩
    refine ⟨lv, kv, hs.cell hd h0, hs.cell hd h1, hs.cell hd h2, hs.cell hd h3, hs.cell hd h4, hs.cell hd h5, hs.cell hd h6, h7.keep hs hD, A, cap, h8, h9, fun h0 => ?_⟩
    obtain ⟨b', off', e, hd', hr⟩ := h10 h0
    refine ⟨b', off', e, hD b' hd' ?_, GlRow_keep hs hD ks hd' hr⟩
    cases ks with
    | nil => simp at h0
    | cons t r =>
      obtain ⟨hr1, -⟩ := hr
      obtain ⟨_, _, hc, -⟩ := (GlAt_iff _ _ _ _ _).1 hr1
      exact cell_lt hc
theorem GlRow_keep {D D' : Blocks} {w w' : World} (hs : Same D w w') (hD : ∀ b, D b → b < w.heap.size → D' b) : ∀ {b off : Nat} (ks : List Gl), D b → GlRow D w b off ks → GlRow D' w' b off ks
  | _, _, [] => by simp [GlRow]
  | b, off, t :: r => by
    simp only [GlRow]
    rintro hd ⟨h1, h2⟩
    exact ⟨GlAt_keep hs hD t hd h1, GlRow_keep hs hD r hd h2⟩
end
theorem Gls.keep {D D' : Blocks} {w w' : World} {v : Value} {ks : List Gl} (h : Gls D w v ks) (hs : Same D w w') (hD : ∀ b, D b → b < w.heap.size → D' b) : Gls D' w' v ks := by
  obtain ⟨A, cap, h1, h2, h3⟩ := h
  refine ⟨A, cap, h1, h2, fun h0 => ?_⟩
  obtain ⟨b, off, e, hd, hr⟩ := h3 h0
  refine ⟨b, off, e, hD b hd ?_, GlRow_keep hs hD ks hd hr⟩
  cases ks with
  | nil => simp at h0
  | cons t r =>
    obtain ⟨hr1, -⟩ := hr
    obtain ⟨_, _, hc, -⟩ := (GlAt_iff _ _ _ _ _).1 hr1
    exact cell_lt hc
theorem GlV.keep {D D' : Blocks} {w w' : World} {v : Value} {t : Gl} (h : GlV D w v t) (hs : Same D w w') (hD : ∀ b, D b → b < w.heap.size → D' b) : GlV D' w' v t := by
  obtain ⟨lv, kv, h1, h2, h3⟩ := h
  exact ⟨lv, kv, h1, h2.keep hs hD, h3.keep hs hD⟩
theorem Same.refl (D : Blocks) (w : World) : Same D w w := fun _ _ _ => rfl
theorem GlV.below {D : Blocks} {w w' : World} {v : Value} {t : Gl} (h : GlV D w v t) (hb : Below w.heap.size w w') : GlV D w' v t := h.keep (Same.below hb) fun _ h _ => h
theorem Gls.below {D : Blocks} {w w' : World} {v : Value} {t : List Gl} (h : Gls D w v t) (hb : Below w.heap.size w w') : Gls D w' v t := h.keep (Same.below hb) fun _ h _ => h
theorem StrsD.below {D : Blocks} {w w' : World} {v : Value} {t : List Str} (h : StrsD D w v t) (hb : Below w.heap.size w w') : StrsD D w' v t := h.keep (Same.below hb) fun _ h _ => h
theorem GlV.all {D : Blocks} {w : World} {v : Value} {t : Gl} (h : GlV D w v t) : GlV All w v t := h.keep (Same.refl _ _) fun _ _ _ => trivial
theorem GlV.here {D : Blocks} {w : World} {v : Value} {t : Gl} (h : GlV D w v t) : GlV (· < w.heap.size) w v t := h.keep (Same.refl _ _) fun _ _ h => h
theorem GlV.one' {D : Blocks} {w : World} {v : Value} {t : Gl} (h : GlV D w v t) : ∃ A n c A' n' c', v = .agg #[.int .i64 t.kind, .string ⟨t.frm.toArray⟩, .string ⟨t.rcv.toArray⟩, .int .i64 t.sort, .string ⟨t.name.toArray⟩, .slice A n c, .slice A' n' c'] := by
  obtain ⟨lv, kv, rfl, ⟨A, c, rfl, -, -⟩, ⟨A', c', rfl, -, -⟩⟩ := h
  exact ⟨_, _, _, _, _, _, rfl⟩
theorem Gls.one {D : Blocks} {w : World} {v : Value} {l : List Gl} (h : Gls D w v l) : v.oneCell' = true := by obtain ⟨A, cap, rfl, _⟩ := h; rfl
theorem StrsD.one {D : Blocks} {w : World} {v : Value} {l : List Str} (h : StrsD D w v l) : v.oneCell' = true := h.is.one

/-- One of the kids. -/
theorem gkid_at {D : Blocks} {w : World} {A : Option Addr} {n cap : Nat} {ks : List Gl} {i : Nat} {t : Gl} (h : Gls D w (.slice A n cap) ks) (hi : ks[i]? = some t) :
    n = ks.length ∧ n ≤ cap ∧ ∃ b off A1 n1 p1 A2 n2 p2, A = some ⟨b, off, none⟩ ∧ D b ∧ w.cell? ⟨b, off + i * 7, none⟩ = some (.int .i64 t.kind) ∧ w.cell? ⟨b, off + i * 7 + 1, none⟩ = some (.string ⟨t.frm.toArray⟩) ∧ w.cell? ⟨b, off + i * 7 + 2, none⟩ = some (.string ⟨t.rcv.toArray⟩) ∧ w.cell? ⟨b, off + i * 7 + 3, none⟩ = some (.int .i64 t.sort) ∧ w.cell? ⟨b, off + i * 7 + 4, none⟩ = some (.string ⟨t.name.toArray⟩) ∧
      w.cell? ⟨b, off + i * 7 + 5, none⟩ = some (.slice A1 n1 p1) ∧ w.cell? ⟨b, off + i * 7 + 6, none⟩ = some (.slice A2 n2 p2) ∧ StrsD D w (.slice A1 n1 p1) t.labels ∧ Gls D w (.slice A2 n2 p2) t.kids := by
  obtain ⟨A', cap', e, hle, h3⟩ := h
  injection e with e1 e2 e3
  subst e1 e2 e3
  have hlt := (List.getElem?_eq_some_iff.1 hi).1
  obtain ⟨b, off, rfl, hd, hr⟩ := h3 (by omega)
  obtain ⟨lv, kv, c0, c1, c2, c3, c4, c5, c6, h5, h6⟩ := (GlAt_iff _ _ _ _ _).1 (GlRow_at hr hi)
  have h5' := h5
  have h6' := h6
  obtain ⟨A1, p1, rfl, _⟩ := h5
  obtain ⟨A2, p2, rfl, _⟩ := h6
  exact ⟨rfl, hle, b, off, A1, _, p1, A2, _, p2, rfl, hd, c0, c1, c2, c3, c4, c5, c6, h5', h6'⟩
theorem glV_of {D : Blocks} {w : World} {t : Gl} {lv kv : Value} (h1 : StrsD D w lv t.labels) (h2 : Gls D w kv t.kids) : GlV D w (.agg #[.int .i64 t.kind, .string ⟨t.frm.toArray⟩, .string ⟨t.rcv.toArray⟩, .int .i64 t.sort, .string ⟨t.name.toArray⟩, lv, kv]) t := ⟨lv, kv, rfl, h1, h2⟩

/-- The cells of conversations, one behind the other. -/
inductive Cells7 (D : Blocks) (w : World) : List Value → List Gl → Prop where
  | nil : Cells7 D w [] []
  | cons (t : Gl) (lv kv : Value) (xs : List Value) (ts : List Gl) (h1 : StrsD D w lv t.labels) (h2 : Gls D w kv t.kids) (h : Cells7 D w xs ts) :
      Cells7 D w (.int .i64 t.kind :: .string ⟨t.frm.toArray⟩ :: .string ⟨t.rcv.toArray⟩ :: .int .i64 t.sort :: .string ⟨t.name.toArray⟩ :: lv :: kv :: xs) (t :: ts)
theorem Cells7.length {D : Blocks} {w : World} {xs : List Value} {ts : List Gl} (h : Cells7 D w xs ts) : xs.length = ts.length * 7 := by
  induction h with
  | nil => rfl
  | cons => simp only [List.length_cons]; omega
theorem Cells7.one {D : Blocks} {w : World} {xs : List Value} {ts : List Gl} (h : Cells7 D w xs ts) : ∀ u ∈ xs, u.oneCell' = true := by
  induction h with
  | nil => simp
  | cons t lv kv xs ts h1 h2 _ ih =>
    intro u hu
    simp only [List.mem_cons] at hu
    rcases hu with rfl | rfl | rfl | rfl | rfl | rfl | rfl | hu
    · rfl
    · rfl
    · rfl
    · rfl
    · rfl
    · exact h1.one
    · exact h2.one
    · exact ih u hu
theorem Cells7.append {D : Blocks} {w : World} {xs ys : List Value} {ts us : List Gl} (h : Cells7 D w xs ts) (h' : Cells7 D w ys us) : Cells7 D w (xs ++ ys) (ts ++ us) := by
  induction h with
  | nil => exact h'
  | cons t lv kv xs ts h1 h2 _ ih => exact .cons t lv kv _ _ h1 h2 ih
theorem Cells7.keep {D D' : Blocks} {w w' : World} {xs : List Value} {ts : List Gl} (h : Cells7 D w xs ts) (hs : Same D w w') (hD : ∀ b, D b → b < w.heap.size → D' b) : Cells7 D' w' xs ts := by
  induction h with
  | nil => exact .nil
  | cons t lv kv xs ts h1 h2 _ ih => exact .cons t lv kv _ _ (h1.keep hs hD) (h2.keep hs hD) ih
theorem Cells7.row {D : Blocks} {w : World} {b : Nat} {xs : List Value} {ts : List Gl} (h : Cells7 D w xs ts) : ∀ (off : Nat), (∀ j u, xs[j]? = some u → w.cell? ⟨b, off + j, none⟩ = some u) → GlRow D w b off ts := by
  induction h with
  | nil => intro off _; simp [GlRow]
  | cons t lv kv xs ts h1 h2 _ ih =>
    intro off hc
    refine ⟨(GlAt_iff _ _ _ _ _).2 ⟨lv, kv, hc 0 _ rfl, hc 1 _ rfl, hc 2 _ rfl, hc 3 _ rfl, hc 4 _ rfl, hc 5 _ rfl, hc 6 _ rfl, h1, h2⟩, ih (off + 7) fun j u hj => ?_⟩
    have := hc (j + 7) u (by simpa using hj)
    rw [show off + 7 + j = off + (j + 7) by omega]
    exact this
theorem own_gls {D : Blocks} {w : World} {base : Nat} {E : TypeId} {v : Value} {xs : List Value} {ts : List Gl} (h : w.ownsRow base E 7 v ts.length xs) (hc : Cells7 D w xs ts) (hD : ∀ b, base ≤ b → D b) : Gls D w v ts := by
  have hcells := fun g => h.cells (g := g)
  rcases h.2 with ⟨rfl, h0⟩ | ⟨g, cap, cur, rfl, hg, _, hn, _⟩
  · refine ⟨none, 0, by rw [h0], by omega, fun h1 => by omega⟩
  · refine ⟨_, cap, rfl, hn, fun _ => ⟨g, 0, rfl, hD g hg, hc.row 0 fun j u hj => ?_⟩⟩
    have := hcells g rfl j u hj
    rw [Go.WideShapes.add_plain] at this
    exact this

/-- A box of a call: seven cells. -/
structure GBox (w : World) (b : Nat) (t : Gl) (lv kv : Value) : Prop where
  c0 : w.cell? ⟨b, 0, none⟩ = some (.int .i64 t.kind)
  c1 : w.cell? ⟨b, 1, none⟩ = some (.string ⟨t.frm.toArray⟩)
  c2 : w.cell? ⟨b, 2, none⟩ = some (.string ⟨t.rcv.toArray⟩)
  c3 : w.cell? ⟨b, 3, none⟩ = some (.int .i64 t.sort)
  c4 : w.cell? ⟨b, 4, none⟩ = some (.string ⟨t.name.toArray⟩)
  c5 : w.cell? ⟨b, 5, none⟩ = some lv
  c6 : w.cell? ⟨b, 6, none⟩ = some kv
  fr : ∀ j, w.frozen? ⟨b, j, none⟩ = false
  lt : b < w.heap.size
theorem GBox.keep {w w' : World} {b B : Nat} {t : Gl} {lv kv : Value} (h : GBox w b t lv kv) (hb : Below B w w') (hB : b < B) : GBox w' b t lv kv :=
  ⟨(hb.cell (p := ⟨b, 0, none⟩) hB).trans h.c0, (hb.cell (p := ⟨b, 1, none⟩) hB).trans h.c1, (hb.cell (p := ⟨b, 2, none⟩) hB).trans h.c2, (hb.cell (p := ⟨b, 3, none⟩) hB).trans h.c3, (hb.cell (p := ⟨b, 4, none⟩) hB).trans h.c4, (hb.cell (p := ⟨b, 5, none⟩) hB).trans h.c5, (hb.cell (p := ⟨b, 6, none⟩) hB).trans h.c6, fun j => (hb.frozen (p := ⟨b, j, none⟩) hB).trans (h.fr j), Nat.lt_of_lt_of_le h.lt hb.size⟩
theorem GBox.far {w : World} {b : Nat} {t : Gl} {lv kv : Value} (h : GBox w b t lv kv) {p : Addr} (hp : p.block ≠ b) (u : Value) : GBox (w.setCell p u) b t lv kv :=
  ⟨(World.cell?_setCell_far w p _ u hp).trans h.c0, (World.cell?_setCell_far w p _ u hp).trans h.c1, (World.cell?_setCell_far w p _ u hp).trans h.c2, (World.cell?_setCell_far w p _ u hp).trans h.c3, (World.cell?_setCell_far w p _ u hp).trans h.c4, (World.cell?_setCell_far w p _ u hp).trans h.c5, (World.cell?_setCell_far w p _ u hp).trans h.c6, fun j => by rw [World.frozen?_setCell]; exact h.fr j, by rw [World.size_setCell]; exact h.lt⟩
theorem GBox.drewN {w : World} {b : Nat} {t : Gl} {lv kv : Value} (h : GBox w b t lv kv) (n : Nat) : GBox (w.drewN n) b t lv kv := ⟨h.c0, h.c1, h.c2, h.c3, h.c4, h.c5, h.c6, h.fr, h.lt⟩
theorem GBox.grown {w w' : World} {b : Nat} {row : Option Nat} {t : Gl} {lv kv : Value} (h : GBox w b t lv kv) (hg : w.grownBy w' row) (hb : some b ≠ row) : GBox w' b t lv kv := by
  have hc : ∀ j, w'.cell? ⟨b, j, none⟩ = w.cell? ⟨b, j, none⟩ := fun j => World.cell?_of_block (a := ⟨b, j, none⟩) (hg.block b h.lt hb)
  have hf : ∀ j, w'.frozen? ⟨b, j, none⟩ = w.frozen? ⟨b, j, none⟩ := fun j => World.frozen?_of_block (a := ⟨b, j, none⟩) (hg.block b h.lt hb)
  exact ⟨(hc 0).trans h.c0, (hc 1).trans h.c1, (hc 2).trans h.c2, (hc 3).trans h.c3, (hc 4).trans h.c4, (hc 5).trans h.c5, (hc 6).trans h.c6, fun j => (hf j).trans (h.fr j), Nat.lt_of_lt_of_le h.lt hg.size⟩
section
variable {w : World} {b : Nat}
theorem cell_ne {i j : Nat} {w : World} {u : Value} (h : i ≠ j) : (w.setCell ⟨b, i, none⟩ u).cell? ⟨b, j, none⟩ = w.cell? ⟨b, j, none⟩ := World.cell?_setCell_other _ _ _ _ (fun e => h (by injection e))
theorem cell_eq {i : Nat} {w : World} {u x : Value} (h : w.cell? ⟨b, i, none⟩ = some x) : (w.setCell ⟨b, i, none⟩ u).cell? ⟨b, i, none⟩ = some u := World.cell?_setCell_same' _ _ _ (by rw [h]; rfl)
end
/-- One cell of a box is written. -/
theorem GBox.set0 {w : World} {b : Nat} {t : Gl} {lv kv : Value} (h : GBox w b t lv kv) (k : Int) : GBox (w.setCell ⟨b, 0, none⟩ (.int .i64 k)) b (.mk k t.frm t.rcv t.sort t.name t.labels t.kids) lv kv :=
  ⟨cell_eq h.c0, (cell_ne (by decide)).trans h.c1, (cell_ne (by decide)).trans h.c2, (cell_ne (by decide)).trans h.c3, (cell_ne (by decide)).trans h.c4, (cell_ne (by decide)).trans h.c5, (cell_ne (by decide)).trans h.c6, fun j => by rw [World.frozen?_setCell]; exact h.fr j, by rw [World.size_setCell]; exact h.lt⟩
theorem GBox.set1 {w : World} {b : Nat} {t : Gl} {lv kv : Value} (h : GBox w b t lv kv) (x : Str) : GBox (w.setCell ⟨b, 1, none⟩ (.string ⟨x.toArray⟩)) b (.mk t.kind x t.rcv t.sort t.name t.labels t.kids) lv kv :=
  ⟨(cell_ne (by decide)).trans h.c0, cell_eq h.c1, (cell_ne (by decide)).trans h.c2, (cell_ne (by decide)).trans h.c3, (cell_ne (by decide)).trans h.c4, (cell_ne (by decide)).trans h.c5, (cell_ne (by decide)).trans h.c6, fun j => by rw [World.frozen?_setCell]; exact h.fr j, by rw [World.size_setCell]; exact h.lt⟩
theorem GBox.set2 {w : World} {b : Nat} {t : Gl} {lv kv : Value} (h : GBox w b t lv kv) (x : Str) : GBox (w.setCell ⟨b, 2, none⟩ (.string ⟨x.toArray⟩)) b (.mk t.kind t.frm x t.sort t.name t.labels t.kids) lv kv :=
  ⟨(cell_ne (by decide)).trans h.c0, (cell_ne (by decide)).trans h.c1, cell_eq h.c2, (cell_ne (by decide)).trans h.c3, (cell_ne (by decide)).trans h.c4, (cell_ne (by decide)).trans h.c5, (cell_ne (by decide)).trans h.c6, fun j => by rw [World.frozen?_setCell]; exact h.fr j, by rw [World.size_setCell]; exact h.lt⟩
theorem GBox.set3 {w : World} {b : Nat} {t : Gl} {lv kv : Value} (h : GBox w b t lv kv) (s : Int) : GBox (w.setCell ⟨b, 3, none⟩ (.int .i64 s)) b (.mk t.kind t.frm t.rcv s t.name t.labels t.kids) lv kv :=
  ⟨(cell_ne (by decide)).trans h.c0, (cell_ne (by decide)).trans h.c1, (cell_ne (by decide)).trans h.c2, cell_eq h.c3, (cell_ne (by decide)).trans h.c4, (cell_ne (by decide)).trans h.c5, (cell_ne (by decide)).trans h.c6, fun j => by rw [World.frozen?_setCell]; exact h.fr j, by rw [World.size_setCell]; exact h.lt⟩
theorem GBox.set4 {w : World} {b : Nat} {t : Gl} {lv kv : Value} (h : GBox w b t lv kv) (x : Str) : GBox (w.setCell ⟨b, 4, none⟩ (.string ⟨x.toArray⟩)) b (.mk t.kind t.frm t.rcv t.sort x t.labels t.kids) lv kv :=
  ⟨(cell_ne (by decide)).trans h.c0, (cell_ne (by decide)).trans h.c1, (cell_ne (by decide)).trans h.c2, (cell_ne (by decide)).trans h.c3, cell_eq h.c4, (cell_ne (by decide)).trans h.c5, (cell_ne (by decide)).trans h.c6, fun j => by rw [World.frozen?_setCell]; exact h.fr j, by rw [World.size_setCell]; exact h.lt⟩
theorem GBox.set5 {w : World} {b : Nat} {t : Gl} {lv kv : Value} (h : GBox w b t lv kv) (v : Value) (ls : List Str) : GBox (w.setCell ⟨b, 5, none⟩ v) b (.mk t.kind t.frm t.rcv t.sort t.name ls t.kids) v kv :=
  ⟨(cell_ne (by decide)).trans h.c0, (cell_ne (by decide)).trans h.c1, (cell_ne (by decide)).trans h.c2, (cell_ne (by decide)).trans h.c3, (cell_ne (by decide)).trans h.c4, cell_eq h.c5, (cell_ne (by decide)).trans h.c6, fun j => by rw [World.frozen?_setCell]; exact h.fr j, by rw [World.size_setCell]; exact h.lt⟩
theorem GBox.set6 {w : World} {b : Nat} {t : Gl} {lv kv : Value} (h : GBox w b t lv kv) (v : Value) (ks : List Gl) : GBox (w.setCell ⟨b, 6, none⟩ v) b (.mk t.kind t.frm t.rcv t.sort t.name t.labels ks) lv v :=
  ⟨(cell_ne (by decide)).trans h.c0, (cell_ne (by decide)).trans h.c1, (cell_ne (by decide)).trans h.c2, (cell_ne (by decide)).trans h.c3, (cell_ne (by decide)).trans h.c4, (cell_ne (by decide)).trans h.c5, cell_eq h.c6, fun j => by rw [World.frozen?_setCell]; exact h.fr j, by rw [World.size_setCell]; exact h.lt⟩
theorem GBox.fill {w : World} {b : Nat} {t0 : Gl} {l0 k0 : Value} (h : GBox w b t0 l0 k0) (t : Gl) (lv kv : Value) :
    GBox (((((((w.setCell ⟨b, 0, none⟩ (.int .i64 t.kind)).setCell ⟨b, 1, none⟩ (.string ⟨t.frm.toArray⟩)).setCell ⟨b, 2, none⟩ (.string ⟨t.rcv.toArray⟩)).setCell ⟨b, 3, none⟩ (.int .i64 t.sort)).setCell ⟨b, 4, none⟩ (.string ⟨t.name.toArray⟩)).setCell ⟨b, 5, none⟩ lv).setCell ⟨b, 6, none⟩ kv) b t lv kv := by
  have := ((((((h.set0 t.kind).set1 t.frm).set2 t.rcv).set3 t.sort).set4 t.name).set5 lv t.labels).set6 kv t.kids
  cases t
  exact this
theorem Same.fill7 {D : Blocks} {w : World} {b : Nat} (h : ¬ D b) (x0 x1 x2 x3 x4 x5 x6 : Value) :
    Same D w (((((((w.setCell ⟨b, 0, none⟩ x0).setCell ⟨b, 1, none⟩ x1).setCell ⟨b, 2, none⟩ x2).setCell ⟨b, 3, none⟩ x3).setCell ⟨b, 4, none⟩ x4).setCell ⟨b, 5, none⟩ x5).setCell ⟨b, 6, none⟩ x6) := by
  have hsz : ∀ (w : World) (a : Addr) (u : Value), w.heap.size ≤ (w.setCell a u).heap.size := fun w a u => by rw [World.size_setCell]; exact Nat.le_refl _
  refine Same.trans (Same.trans (Same.fill h x0 x1 x2 x3 x4) ?_ (Same.set h)) ?_ (Same.set h)
  all_goals simp only [World.size_setCell]
  all_goals exact Nat.le_refl _
theorem below_fill7 {B : Nat} {a w : World} (h : Below B a w) {b : Nat} (hb : B ≤ b) (x0 x1 x2 x3 x4 x5 x6 : Value) :
    Below B a (((((((w.setCell ⟨b, 0, none⟩ x0).setCell ⟨b, 1, none⟩ x1).setCell ⟨b, 2, none⟩ x2).setCell ⟨b, 3, none⟩ x3).setCell ⟨b, 4, none⟩ x4).setCell ⟨b, 5, none⟩ x5).setCell ⟨b, 6, none⟩ x6) :=
  ((((((h.setCell hb _).setCell hb _).setCell hb _).setCell hb _).setCell hb _).setCell hb _).setCell hb _
theorem new_gbox (w : World) (E : TypeId) : GBox (w.alloc (.cells #[.int .i64 0, .string ⟨#[]⟩, .string ⟨#[]⟩, .int .i64 0, .string ⟨#[]⟩, .slice none 0 0, .slice none 0 0] E)) w.heap.size zeroGl (.slice none 0 0) (.slice none 0 0) :=
  ⟨by simp [go_sem]; rfl, by simp [go_sem]; rfl, by simp [go_sem]; rfl, by simp [go_sem]; rfl, by simp [go_sem]; rfl, by simp [go_sem], by simp [go_sem], fun j => by simp [go_sem], by simp⟩
theorem no_gls (D : Blocks) (w : World) : Gls D w (.slice none 0 0) [] := ⟨none, 0, rfl, Nat.le_refl _, fun h => by simp at h⟩
theorem no_strs' (D : Blocks) (w : World) : StrsD D w (.slice none 0 0) [] := ⟨none, 0, rfl, Nat.le_refl _, fun h => by simp at h⟩
theorem zero_gl (D : Blocks) (w : World) : GlV D w (.agg #[.int .i64 0, .string ⟨#[]⟩, .string ⟨#[]⟩, .int .i64 0, .string ⟨#[]⟩, .slice none 0 0, .slice none 0 0]) zeroGl := ⟨_, _, rfl, no_strs' _ _, no_gls _ _⟩
set_option maxRecDepth 100000
theorem rt_gls : RowType Tryd.prog 40 42 7 112 := .mk' (z := .agg #[.int .i64 0, .string ⟨#[]⟩, .string ⟨#[]⟩, .int .i64 0, .string ⟨#[]⟩, .slice none 0 0, .slice none 0 0]) Tryd.underlying40 (by kernel_rfl) rfl (by decide)
theorem new_gval (w : World) (t : Gl) (lv kv : Value) (E : TypeId) : GBox (w.alloc (.cells #[.int .i64 t.kind, .string ⟨t.frm.toArray⟩, .string ⟨t.rcv.toArray⟩, .int .i64 t.sort, .string ⟨t.name.toArray⟩, lv, kv] E)) w.heap.size t lv kv :=
  ⟨by simp [go_sem], by simp [go_sem], by simp [go_sem], by simp [go_sem], by simp [go_sem], by simp [go_sem], by simp [go_sem], fun j => by simp [go_sem], by simp⟩
end Go.Proofs.YtcacembpegoghaaDoor
