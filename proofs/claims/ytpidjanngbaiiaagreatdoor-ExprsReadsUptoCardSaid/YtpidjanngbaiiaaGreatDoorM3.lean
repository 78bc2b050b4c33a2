/-
  Expressions (api.Expr) as trees, and how they lie in memory, with the blocks in which they lie (D).
  What is wrong with a value, in plain words.
  Expressions: levels of operators, the check, the text, the sort: plain; the reference's forms are the program's.
  The reference's 'letters' (utf-8 letter by letter), 'Length'.
  Plain facts on UTF-8 texts, no program in sight: letters and their bytes, counting, the longest beginning of whole letters.
  The plain law of reading values, no program in sight: what stands between quotes, and numbers.
-/
import Derived.Test.YtpidjanngbaiiaaGreatDoorM2
import Derived.Lib.ItoaNum
import Derived.Lib.MapLaws
import Derived.Lib.TrimUEq
import Derived.Lib.RuneCount
import Derived.Lib.ParseIntBCases
import Derived.Lib.ParseIntBTie
import Derived.Lib.Atoi
namespace Go.Proofs.YtpidjanngbaiiaaGreatDoor
open Go.RowKit Go.Proofs

inductive Ex where
 | mk (kind : Int) (name : Str) (vs : Int) (vn : Int) (vt : Str) (kids : List Ex)
namespace Ex
def kind : Ex → Int | mk x _ _ _ _ _ => x
def name : Ex → Str | mk _ x _ _ _ _ => x
def vs : Ex → Int | mk _ _ x _ _ _ => x
def vn : Ex → Int | mk _ _ _ x _ _ => x
def vt : Ex → Str | mk _ _ _ _ x _ => x
def kids : Ex → List Ex | mk _ _ _ _ _ x => x
theorem kind_mk (kind : Int) (name : Str) (vs : Int) (vn : Int) (vt : Str) (kids : List Ex) : (Ex.mk kind name vs vn vt kids).kind = kind := rfl
theorem name_mk (kind : Int) (name : Str) (vs : Int) (vn : Int) (vt : Str) (kids : List Ex) : (Ex.mk kind name vs vn vt kids).name = name := rfl
theorem vs_mk (kind : Int) (name : Str) (vs : Int) (vn : Int) (vt : Str) (kids : List Ex) : (Ex.mk kind name vs vn vt kids).vs = vs := rfl
theorem vn_mk (kind : Int) (name : Str) (vs : Int) (vn : Int) (vt : Str) (kids : List Ex) : (Ex.mk kind name vs vn vt kids).vn = vn := rfl
theorem vt_mk (kind : Int) (name : Str) (vs : Int) (vn : Int) (vt : Str) (kids : List Ex) : (Ex.mk kind name vs vn vt kids).vt = vt := rfl
theorem kids_mk (kind : Int) (name : Str) (vs : Int) (vn : Int) (vt : Str) (kids : List Ex) : (Ex.mk kind name vs vn vt kids).kids = kids := rfl
end Ex
def zeroEx : Ex := .mk 0 [] 0 0 [] []
inductive ExFit (N : Nat) : Ex → Prop where
 | mk (kind : Int) (name : Str) (vs : Int) (vn : Int) (vt : Str) (kids : List Ex) (h_kind : (Lit.int .i64 kind).wf = true) (h_name : name.length ≤ N) (h_vs : (Lit.int .i64 vs).wf = true) (h_vn : (Lit.int .i64 vn).wf = true) (h_vt : vt.length ≤ N) (h_kids : kids.length ≤ N) (g_kids : ∀ t ∈ kids, ExFit N t) : ExFit N (.mk kind name vs vn vt kids)
theorem ExFit.parts {N : Nat} {t : Ex} (h : ExFit N t) : (Lit.int .i64 t.kind).wf = true ∧ t.name.length ≤ N ∧ (Lit.int .i64 t.vs).wf = true ∧ (Lit.int .i64 t.vn).wf = true ∧ t.vt.length ≤ N ∧ t.kids.length ≤ N ∧ (∀ k ∈ t.kids, ExFit N k) := by
 cases h with
 | mk kind name vs vn vt kids h_kind h_name h_vs h_vn h_vt h_kids g_kids => exact ⟨h_kind, h_name, h_vs, h_vn, h_vt, h_kids, g_kids⟩
theorem ExFit.mono {N M : Nat} (hNM : N ≤ M) : ∀ {t : Ex}, ExFit N t → ExFit M t := by
 intro t h
 induction h with
 | mk kind name vs vn vt kids h_kind h_name h_vs h_vn h_vt h_kids g_kids ih => exact .mk kind name vs vn vt kids h_kind (Nat.le_trans h_name hNM) h_vs h_vn (Nat.le_trans h_vt hNM) (Nat.le_trans h_kids hNM) ih
theorem fit_zeroEx (N : Nat) : ExFit N zeroEx := .mk 0 [] 0 0 [] [] (by decide) (by simp) (by decide) (by decide) (by simp) (by simp) (by simp)
mutual
def ExAt (D : Blocks) (w : World) (b off : Nat) : Ex → Prop
 | .mk kind name vs vn vt kids => ∃ v_kids, w.cell? ⟨b, off, none⟩ = some (.int .i64 kind) ∧ w.cell? ⟨b, off + 1, none⟩ = some (.string ⟨name.toArray⟩) ∧ w.cell? ⟨b, off + 2, none⟩ = some (.int .i64 vs) ∧ w.cell? ⟨b, off + 3, none⟩ = some (.int .i64 vn) ∧ w.cell? ⟨b, off + 4, none⟩ = some (.string ⟨vt.toArray⟩) ∧ w.cell? ⟨b, off + 5, none⟩ = some (v_kids) ∧ ∃ A cap, v_kids = .slice A kids.length cap ∧ kids.length ≤ cap ∧ (A = none → cap = 0) ∧ (0 < kids.length → ∃ b' off', A = some ⟨b', off', none⟩ ∧ D b' ∧ ExRow D w b' off' kids)
def ExRow (D : Blocks) (w : World) (b off : Nat) : List Ex → Prop
 | [] => True
 | t :: r => ExAt D w b off t ∧ ExRow D w b (off + 6) r
end
def Exs (D : Blocks) (w : World) (v : Value) (ks : List Ex) : Prop := ∃ A cap, v = .slice A ks.length cap ∧ ks.length ≤ cap ∧ (A = none → cap = 0) ∧ (0 < ks.length → ∃ b off, A = some ⟨b, off, none⟩ ∧ D b ∧ ExRow D w b off ks)
def ExV (D : Blocks) (w : World) (v : Value) (t : Ex) : Prop := ∃ v_kids, v = .agg #[.int .i64 t.kind, .string ⟨t.name.toArray⟩, .int .i64 t.vs, .int .i64 t.vn, .string ⟨t.vt.toArray⟩, v_kids] ∧ Exs D w v_kids t.kids
theorem ExAt_iff (D : Blocks) (w : World) (b off : Nat) (t : Ex) : ExAt D w b off t ↔ ∃ v_kids, w.cell? ⟨b, off, none⟩ = some (.int .i64 t.kind) ∧ w.cell? ⟨b, off + 1, none⟩ = some (.string ⟨t.name.toArray⟩) ∧ w.cell? ⟨b, off + 2, none⟩ = some (.int .i64 t.vs) ∧ w.cell? ⟨b, off + 3, none⟩ = some (.int .i64 t.vn) ∧ w.cell? ⟨b, off + 4, none⟩ = some (.string ⟨t.vt.toArray⟩) ∧ w.cell? ⟨b, off + 5, none⟩ = some (v_kids) ∧ Exs D w v_kids t.kids := by
 cases t with
 | mk kind name vs vn vt kids => simp only [ExAt, Exs, Ex.kind, Ex.name, Ex.vs, Ex.vn, Ex.vt, Ex.kids]
theorem ExRow_at {D : Blocks} {w : World} {b : Nat} : ∀ {ks : List Ex} {off i : Nat} {t : Ex}, ExRow D w b off ks → ks[i]? = some t → ExAt D w b (off + i * 6) t := by
 intro ks
 induction ks with
 | nil => intro off i t _ h; simp at h
 | cons x r ih =>
  intro off i t h hi
  simp only [ExRow] at h
  match i, hi with
  | 0, hi => simp at hi; subst hi; simpa using h.1
  | i + 1, hi =>
   have := ih h.2 (by simpa using hi)
   rw [show off + (i + 1) * 6 = off + 6 + i * 6 by omega]
   exact this
mutual
theorem ExAt_keep {D D' : Blocks} {w w' : World} (hs : Same D w w') (hD : ∀ b, D b → b < w.heap.size → D' b) : ∀ {b off : Nat} (t : Ex), D b → ExAt D w b off t → ExAt D' w' b off t
 | b, off, .mk kind name vs vn vt kids => by
  simp only [ExAt]
  rintro hd ⟨v_kids, h0, h1, h2, h3, h4, h5, A, cap, h8, h9, hz, h10⟩
  refine ⟨v_kids, hs.cell hd h0, hs.cell hd h1, hs.cell hd h2, hs.cell hd h3, hs.cell hd h4, hs.cell hd h5, A, cap, h8, h9, hz, fun h0 => ?_⟩
  obtain ⟨b', off', e, hd', hr⟩ := h10 h0
  refine ⟨b', off', e, hD b' hd' ?_, ExRow_keep hs hD kids hd' hr⟩
  cases kids with
  | nil => simp at h0
  | cons t r =>
   obtain ⟨hr1, -⟩ := hr
   obtain ⟨_, hc, -⟩ := (ExAt_iff _ _ _ _ _).1 hr1
   exact cell_lt hc
theorem ExRow_keep {D D' : Blocks} {w w' : World} (hs : Same D w w') (hD : ∀ b, D b → b < w.heap.size → D' b) : ∀ {b off : Nat} (ks : List Ex), D b → ExRow D w b off ks → ExRow D' w' b off ks
 | _, _, [] => by simp [ExRow]
 | b, off, t :: r => by
  simp only [ExRow]
  rintro hd ⟨h1, h2⟩
  exact ⟨ExAt_keep hs hD t hd h1, ExRow_keep hs hD r hd h2⟩
end
theorem Exs.keep {D D' : Blocks} {w w' : World} {v : Value} {ks : List Ex} (h : Exs D w v ks) (hs : Same D w w') (hD : ∀ b, D b → b < w.heap.size → D' b) : Exs D' w' v ks := by
 obtain ⟨A, cap, h1, h2, hz, h3⟩ := h
 refine ⟨A, cap, h1, h2, hz, fun h0 => ?_⟩
 obtain ⟨b, off, e, hd, hr⟩ := h3 h0
 refine ⟨b, off, e, hD b hd ?_, ExRow_keep hs hD ks hd hr⟩
 cases ks with
 | nil => simp at h0
 | cons t r =>
  obtain ⟨hr1, -⟩ := hr
  obtain ⟨_, hc, -⟩ := (ExAt_iff _ _ _ _ _).1 hr1
  exact cell_lt hc
theorem ExV.keep {D D' : Blocks} {w w' : World} {v : Value} {t : Ex} (h : ExV D w v t) (hs : Same D w w') (hD : ∀ b, D b → b < w.heap.size → D' b) : ExV D' w' v t := by
 obtain ⟨v_kids, h1, q_kids⟩ := h
 exact ⟨v_kids, h1, q_kids.keep hs hD⟩
theorem ExV.below {D : Blocks} {w w' : World} {v : Value} {t : Ex} (h : ExV D w v t) (hb : Below w.heap.size w w') : ExV D w' v t := h.keep (Same.below hb) fun _ h _ => h
theorem Exs.below {D : Blocks} {w w' : World} {v : Value} {t : List Ex} (h : Exs D w v t) (hb : Below w.heap.size w w') : Exs D w' v t := h.keep (Same.below hb) fun _ h _ => h
theorem ExV.all {D : Blocks} {w : World} {v : Value} {t : Ex} (h : ExV D w v t) : ExV All w v t := h.keep (Same.refl _ _) fun _ _ _ => trivial
theorem Exs.all {D : Blocks} {w : World} {v : Value} {t : List Ex} (h : Exs D w v t) : Exs All w v t := h.keep (Same.refl _ _) fun _ _ _ => trivial
theorem ExV.here {D : Blocks} {w : World} {v : Value} {t : Ex} (h : ExV D w v t) : ExV (· < w.heap.size) w v t := h.keep (Same.refl _ _) fun _ _ h => h
theorem Exs.one {D : Blocks} {w : World} {v : Value} {l : List Ex} (h : Exs D w v l) : v.oneCell' = true := by obtain ⟨A, cap, rfl, _⟩ := h; rfl
theorem ExV.one' {D : Blocks} {w : World} {v : Value} {t : Ex} (h : ExV D w v t) : ∃ A_kids n_kids c_kids, v = .agg #[.int .i64 t.kind, .string ⟨t.name.toArray⟩, .int .i64 t.vs, .int .i64 t.vn, .string ⟨t.vt.toArray⟩, .slice A_kids n_kids c_kids] ∧ Exs D w (.slice A_kids n_kids c_kids) t.kids := by
 obtain ⟨v_kids, rfl, q_kids⟩ := h
 have q_kids' := q_kids
 obtain ⟨A_kids, c_kids, rfl, -, -⟩ := q_kids
 exact ⟨_, _, _, rfl, q_kids'⟩
theorem exkid_at {D : Blocks} {w : World} {A : Option Addr} {n cap : Nat} {ks : List Ex} {i : Nat} {t : Ex} (h : Exs D w (.slice A n cap) ks) (hi : ks[i]? = some t) :
  n = ks.length ∧ n ≤ cap ∧ ∃ b off A_kids n_kids c_kids, A = some ⟨b, off, none⟩ ∧ D b ∧ w.cell? ⟨b, off + i * 6, none⟩ = some (.int .i64 t.kind) ∧ w.cell? ⟨b, off + i * 6 + 1, none⟩ = some (.string ⟨t.name.toArray⟩) ∧ w.cell? ⟨b, off + i * 6 + 2, none⟩ = some (.int .i64 t.vs) ∧ w.cell? ⟨b, off + i * 6 + 3, none⟩ = some (.int .i64 t.vn) ∧ w.cell? ⟨b, off + i * 6 + 4, none⟩ = some (.string ⟨t.vt.toArray⟩) ∧ w.cell? ⟨b, off + i * 6 + 5, none⟩ = some (.slice A_kids n_kids c_kids) ∧ Exs D w (.slice A_kids n_kids c_kids) t.kids := by
 obtain ⟨A', cap', e, hle, -, h3⟩ := h
 injection e with e1 e2 e3
 subst e1 e2 e3
 have hlt := (List.getElem?_eq_some_iff.1 hi).1
 obtain ⟨b, off, rfl, hd, hr⟩ := h3 (by omega)
 obtain ⟨v_kids, x0, x1, x2, x3, x4, x5, q_kids⟩ := (ExAt_iff _ _ _ _ _).1 (ExRow_at hr hi)
 have q_kids' := q_kids
 obtain ⟨A_kids, c_kids, rfl, -, -⟩ := q_kids
 exact ⟨rfl, hle, b, off, _, _, _, rfl, hd, x0, x1, x2, x3, x4, x5, q_kids'⟩
theorem exV_of {D : Blocks} {w : World} {t : Ex} {v_kids : Value} (q_kids : Exs D w v_kids t.kids) : ExV D w (.agg #[.int .i64 t.kind, .string ⟨t.name.toArray⟩, .int .i64 t.vs, .int .i64 t.vn, .string ⟨t.vt.toArray⟩, v_kids]) t := ⟨_, rfl, q_kids⟩
inductive ExCells (D : Blocks) (w : World) : List Value → List Ex → Prop where
 | nil : ExCells D w [] []
 | cons (t : Ex) (v_kids : Value) (xs : List Value) (ts : List Ex) (q_kids : Exs D w v_kids t.kids) (h : ExCells D w xs ts) :
   ExCells D w (.int .i64 t.kind :: .string ⟨t.name.toArray⟩ :: .int .i64 t.vs :: .int .i64 t.vn :: .string ⟨t.vt.toArray⟩ :: v_kids :: xs) (t :: ts)
theorem ExCells.length {D : Blocks} {w : World} {xs : List Value} {ts : List Ex} (h : ExCells D w xs ts) : xs.length = ts.length * 6 := by
 induction h with
 | nil => rfl
 | cons => simp only [List.length_cons]; omega
theorem ExCells.one {D : Blocks} {w : World} {xs : List Value} {ts : List Ex} (h : ExCells D w xs ts) : ∀ u ∈ xs, u.oneCell' = true := by
 induction h with
 | nil => simp
 | cons t v_kids xs ts q_kids _ ih =>
  intro u hu
  simp only [List.mem_cons] at hu
  rcases hu with rfl | rfl | rfl | rfl | rfl | rfl | hu
  ·rfl
  ·rfl
  ·rfl
  ·rfl
  ·rfl
  ·exact q_kids.one
  ·exact ih u hu
theorem ExCells.append {D : Blocks} {w : World} {xs ys : List Value} {ts us : List Ex} (h : ExCells D w xs ts) (h' : ExCells D w ys us) : ExCells D w (xs ++ ys) (ts ++ us) := by
 induction h with
 | nil => exact h'
 | cons t v_kids xs ts q_kids _ ih => exact .cons t v_kids _ _ q_kids ih
theorem ExCells.keep {D D' : Blocks} {w w' : World} {xs : List Value} {ts : List Ex} (h : ExCells D w xs ts) (hs : Same D w w') (hD : ∀ b, D b → b < w.heap.size → D' b) : ExCells D' w' xs ts := by
 induction h with
 | nil => exact .nil
 | cons t v_kids xs ts q_kids _ ih => exact .cons t v_kids _ _ (q_kids.keep hs hD) ih
theorem ExCells.row {D : Blocks} {w : World} {b : Nat} {xs : List Value} {ts : List Ex} (h : ExCells D w xs ts) : ∀ (off : Nat), (∀ j u, xs[j]? = some u → w.cell? ⟨b, off + j, none⟩ = some u) → ExRow D w b off ts := by
 induction h with
 | nil => intro off _; simp [ExRow]
 | cons t v_kids xs ts q_kids _ ih =>
  intro off hc
  refine ⟨(ExAt_iff _ _ _ _ _).2 ⟨v_kids, hc 0 _ rfl, hc 1 _ rfl, hc 2 _ rfl, hc 3 _ rfl, hc 4 _ rfl, hc 5 _ rfl, q_kids⟩, ih (off + 6) fun j u hj => ?_⟩
  have := hc (j + 6) u (by simpa using hj)
  rw [show off + 6 + j = off + (j + 6) by omega]
  exact this
theorem own_exs {D : Blocks} {w : World} {base : Nat} {E : TypeId} {v : Value} {xs : List Value} {ts : List Ex} (h : w.ownsRow base E 6 v ts.length xs) (hc : ExCells D w xs ts) (hD : ∀ b, base ≤ b → D b) : Exs D w v ts := by
 have hcells := fun g => h.cells (g := g)
 rcases h.2 with ⟨rfl, h0⟩ | ⟨g, cap, cur, rfl, hg, _, hn, _⟩
 ·refine ⟨none, 0, by rw [h0], by omega, fun _ => rfl, fun h1 => by omega⟩
 ·refine ⟨_, cap, rfl, hn, (fun e => by cases e), fun _ => ⟨g, 0, rfl, hD g hg, hc.row 0 fun j u hj => ?_⟩⟩
  have := hcells g rfl j u hj
  rw [Go.WideShapes.add_plain] at this
  exact this
structure ExBox (w : World) (b : Nat) (t : Ex) (v_kids : Value) : Prop where
 c0 : w.cell? ⟨b, 0, none⟩ = some (.int .i64 t.kind)
 c1 : w.cell? ⟨b, 1, none⟩ = some (.string ⟨t.name.toArray⟩)
 c2 : w.cell? ⟨b, 2, none⟩ = some (.int .i64 t.vs)
 c3 : w.cell? ⟨b, 3, none⟩ = some (.int .i64 t.vn)
 c4 : w.cell? ⟨b, 4, none⟩ = some (.string ⟨t.vt.toArray⟩)
 c5 : w.cell? ⟨b, 5, none⟩ = some (v_kids)
 fr : ∀ j, w.frozen? ⟨b, j, none⟩ = false
 lt : b < w.heap.size
theorem ExBox.keep {w w' : World} {b B : Nat} {t : Ex} {v_kids : Value} (h : ExBox w b t v_kids) (hb : Below B w w') (hB : b < B) : ExBox w' b t v_kids :=
 ⟨(hb.cell (p := ⟨b, 0, none⟩) hB).trans h.c0, (hb.cell (p := ⟨b, 1, none⟩) hB).trans h.c1, (hb.cell (p := ⟨b, 2, none⟩) hB).trans h.c2, (hb.cell (p := ⟨b, 3, none⟩) hB).trans h.c3, (hb.cell (p := ⟨b, 4, none⟩) hB).trans h.c4, (hb.cell (p := ⟨b, 5, none⟩) hB).trans h.c5, fun j => (hb.frozen (p := ⟨b, j, none⟩) hB).trans (h.fr j), Nat.lt_of_lt_of_le h.lt hb.size⟩
theorem ExBox.far {w : World} {b : Nat} {t : Ex} {v_kids : Value} (h : ExBox w b t v_kids) {p : Addr} (hp : p.block ≠ b) (u : Value) : ExBox (w.setCell p u) b t v_kids :=
 ⟨(World.cell?_setCell_far w p _ u hp).trans h.c0, (World.cell?_setCell_far w p _ u hp).trans h.c1, (World.cell?_setCell_far w p _ u hp).trans h.c2, (World.cell?_setCell_far w p _ u hp).trans h.c3, (World.cell?_setCell_far w p _ u hp).trans h.c4, (World.cell?_setCell_far w p _ u hp).trans h.c5, fun j => by rw [World.frozen?_setCell]; exact h.fr j, by rw [World.size_setCell]; exact h.lt⟩
theorem ExBox.drewN {w : World} {b : Nat} {t : Ex} {v_kids : Value} (h : ExBox w b t v_kids) (n : Nat) : ExBox (w.drewN n) b t v_kids := ⟨h.c0, h.c1, h.c2, h.c3, h.c4, h.c5, h.fr, h.lt⟩
theorem ExBox.grown {w w' : World} {b : Nat} {row : Option Nat} {t : Ex} {v_kids : Value} (h : ExBox w b t v_kids) (hg : w.grownBy w' row) (hb : some b ≠ row) : ExBox w' b t v_kids := by
 have hc : ∀ j, w'.cell? ⟨b, j, none⟩ = w.cell? ⟨b, j, none⟩ := fun j => World.cell?_of_block (a := ⟨b, j, none⟩) (hg.block b h.lt hb)
 have hf : ∀ j, w'.frozen? ⟨b, j, none⟩ = w.frozen? ⟨b, j, none⟩ := fun j => World.frozen?_of_block (a := ⟨b, j, none⟩) (hg.block b h.lt hb)
 exact ⟨(hc 0).trans h.c0, (hc 1).trans h.c1, (hc 2).trans h.c2, (hc 3).trans h.c3, (hc 4).trans h.c4, (hc 5).trans h.c5, fun j => (hf j).trans (h.fr j), Nat.lt_of_lt_of_le h.lt hg.size⟩
theorem ExBox.set0 {w : World} {b : Nat} {t : Ex} {v_kids : Value} (h : ExBox w b t v_kids) (x : Int) : ExBox (w.setCell ⟨b, 0, none⟩ (.int .i64 x)) b (.mk x t.name t.vs t.vn t.vt t.kids) v_kids :=
 ⟨cell_eq h.c0, (cell_ne (by decide)).trans h.c1, (cell_ne (by decide)).trans h.c2, (cell_ne (by decide)).trans h.c3, (cell_ne (by decide)).trans h.c4, (cell_ne (by decide)).trans h.c5, fun j => by rw [World.frozen?_setCell]; exact h.fr j, by rw [World.size_setCell]; exact h.lt⟩
theorem ExBox.set1 {w : World} {b : Nat} {t : Ex} {v_kids : Value} (h : ExBox w b t v_kids) (x : Str) : ExBox (w.setCell ⟨b, 1, none⟩ (.string ⟨x.toArray⟩)) b (.mk t.kind x t.vs t.vn t.vt t.kids) v_kids :=
 ⟨(cell_ne (by decide)).trans h.c0, cell_eq h.c1, (cell_ne (by decide)).trans h.c2, (cell_ne (by decide)).trans h.c3, (cell_ne (by decide)).trans h.c4, (cell_ne (by decide)).trans h.c5, fun j => by rw [World.frozen?_setCell]; exact h.fr j, by rw [World.size_setCell]; exact h.lt⟩
theorem ExBox.set2 {w : World} {b : Nat} {t : Ex} {v_kids : Value} (h : ExBox w b t v_kids) (x : Int) : ExBox (w.setCell ⟨b, 2, none⟩ (.int .i64 x)) b (.mk t.kind t.name x t.vn t.vt t.kids) v_kids :=
 ⟨(cell_ne (by decide)).trans h.c0, (cell_ne (by decide)).trans h.c1, cell_eq h.c2, (cell_ne (by decide)).trans h.c3, (cell_ne (by decide)).trans h.c4, (cell_ne (by decide)).trans h.c5, fun j => by rw [World.frozen?_setCell]; exact h.fr j, by rw [World.size_setCell]; exact h.lt⟩
theorem ExBox.set3 {w : World} {b : Nat} {t : Ex} {v_kids : Value} (h : ExBox w b t v_kids) (x : Int) : ExBox (w.setCell ⟨b, 3, none⟩ (.int .i64 x)) b (.mk t.kind t.name t.vs x t.vt t.kids) v_kids :=
 ⟨(cell_ne (by decide)).trans h.c0, (cell_ne (by decide)).trans h.c1, (cell_ne (by decide)).trans h.c2, cell_eq h.c3, (cell_ne (by decide)).trans h.c4, (cell_ne (by decide)).trans h.c5, fun j => by rw [World.frozen?_setCell]; exact h.fr j, by rw [World.size_setCell]; exact h.lt⟩
theorem ExBox.set4 {w : World} {b : Nat} {t : Ex} {v_kids : Value} (h : ExBox w b t v_kids) (x : Str) : ExBox (w.setCell ⟨b, 4, none⟩ (.string ⟨x.toArray⟩)) b (.mk t.kind t.name t.vs t.vn x t.kids) v_kids :=
 ⟨(cell_ne (by decide)).trans h.c0, (cell_ne (by decide)).trans h.c1, (cell_ne (by decide)).trans h.c2, (cell_ne (by decide)).trans h.c3, cell_eq h.c4, (cell_ne (by decide)).trans h.c5, fun j => by rw [World.frozen?_setCell]; exact h.fr j, by rw [World.size_setCell]; exact h.lt⟩
theorem ExBox.set5 {w : World} {b : Nat} {t : Ex} {v_kids : Value} (h : ExBox w b t v_kids) (v : Value) (x : List Ex) : ExBox (w.setCell ⟨b, 5, none⟩ (v)) b (.mk t.kind t.name t.vs t.vn t.vt x) v :=
 ⟨(cell_ne (by decide)).trans h.c0, (cell_ne (by decide)).trans h.c1, (cell_ne (by decide)).trans h.c2, (cell_ne (by decide)).trans h.c3, (cell_ne (by decide)).trans h.c4, cell_eq h.c5, fun j => by rw [World.frozen?_setCell]; exact h.fr j, by rw [World.size_setCell]; exact h.lt⟩
theorem ExBox.fill {w : World} {b : Nat} {t0 : Ex} {u_kids : Value} (h : ExBox w b t0 u_kids) (t : Ex) (v_kids : Value) :
  ExBox ((((((w.setCell ⟨b, 0, none⟩ (.int .i64 t.kind)).setCell ⟨b, 1, none⟩ (.string ⟨t.name.toArray⟩)).setCell ⟨b, 2, none⟩ (.int .i64 t.vs)).setCell ⟨b, 3, none⟩ (.int .i64 t.vn)).setCell ⟨b, 4, none⟩ (.string ⟨t.vt.toArray⟩)).setCell ⟨b, 5, none⟩ (v_kids)) b t v_kids := by
 have := ((((((h.set0 t.kind).set1 t.name).set2 t.vs).set3 t.vn).set4 t.vt).set5 v_kids t.kids)
 cases t
 exact this
theorem Same.fillEx {D : Blocks} {w : World} {b : Nat} (h : ¬ D b) (x0 x1 x2 x3 x4 x5 : Value) :
  Same D w ((((((w.setCell ⟨b, 0, none⟩ x0).setCell ⟨b, 1, none⟩ x1).setCell ⟨b, 2, none⟩ x2).setCell ⟨b, 3, none⟩ x3).setCell ⟨b, 4, none⟩ x4).setCell ⟨b, 5, none⟩ x5) := by
 have hsz : ∀ (w : World) (a : Addr) (u : Value), w.heap.size ≤ (w.setCell a u).heap.size := fun w a u => by rw [World.size_setCell]; exact Nat.le_refl _
 have k0 : Same D w (w.setCell ⟨b, 0, none⟩ x0) := Same.set h
 have k1 : Same D w ((w.setCell ⟨b, 0, none⟩ x0).setCell ⟨b, 1, none⟩ x1) := Same.trans k0 (by simp only [World.size_setCell]; exact Nat.le_refl _) (Same.set h)
 have k2 : Same D w (((w.setCell ⟨b, 0, none⟩ x0).setCell ⟨b, 1, none⟩ x1).setCell ⟨b, 2, none⟩ x2) := Same.trans k1 (by simp only [World.size_setCell]; exact Nat.le_refl _) (Same.set h)
 have k3 : Same D w ((((w.setCell ⟨b, 0, none⟩ x0).setCell ⟨b, 1, none⟩ x1).setCell ⟨b, 2, none⟩ x2).setCell ⟨b, 3, none⟩ x3) := Same.trans k2 (by simp only [World.size_setCell]; exact Nat.le_refl _) (Same.set h)
 have k4 : Same D w (((((w.setCell ⟨b, 0, none⟩ x0).setCell ⟨b, 1, none⟩ x1).setCell ⟨b, 2, none⟩ x2).setCell ⟨b, 3, none⟩ x3).setCell ⟨b, 4, none⟩ x4) := Same.trans k3 (by simp only [World.size_setCell]; exact Nat.le_refl _) (Same.set h)
 have k5 : Same D w ((((((w.setCell ⟨b, 0, none⟩ x0).setCell ⟨b, 1, none⟩ x1).setCell ⟨b, 2, none⟩ x2).setCell ⟨b, 3, none⟩ x3).setCell ⟨b, 4, none⟩ x4).setCell ⟨b, 5, none⟩ x5) := Same.trans k4 (by simp only [World.size_setCell]; exact Nat.le_refl _) (Same.set h)
 exact k5
theorem below_fillEx {B : Nat} {a w : World} (h : Below B a w) {b : Nat} (hb : B ≤ b) (x0 x1 x2 x3 x4 x5 : Value) :
  Below B a ((((((w.setCell ⟨b, 0, none⟩ x0).setCell ⟨b, 1, none⟩ x1).setCell ⟨b, 2, none⟩ x2).setCell ⟨b, 3, none⟩ x3).setCell ⟨b, 4, none⟩ x4).setCell ⟨b, 5, none⟩ x5) :=
 ((((((h.setCell hb _).setCell hb _).setCell hb _).setCell hb _).setCell hb _).setCell hb _)
theorem new_exbox (w : World) (E : TypeId) : ExBox (w.alloc (.cells #[.int .i64 0, .string ⟨#[]⟩, .int .i64 0, .int .i64 0, .string ⟨#[]⟩, .slice none 0 0] E)) w.heap.size zeroEx (.slice none 0 0) :=
 ⟨by simp [go_sem]; rfl, by simp [go_sem]; rfl, by simp [go_sem]; rfl, by simp [go_sem]; rfl, by simp [go_sem]; rfl, by simp [go_sem], fun j => by simp [go_sem], by simp⟩
theorem new_exval (w : World) (t : Ex) (v_kids : Value) (E : TypeId) : ExBox (w.alloc (.cells #[.int .i64 t.kind, .string ⟨t.name.toArray⟩, .int .i64 t.vs, .int .i64 t.vn, .string ⟨t.vt.toArray⟩, v_kids] E)) w.heap.size t v_kids :=
 ⟨by simp [go_sem], by simp [go_sem], by simp [go_sem], by simp [go_sem], by simp [go_sem], by simp [go_sem], fun j => by simp [go_sem], by simp⟩
theorem no_exs (D : Blocks) (w : World) : Exs D w (.slice none 0 0) [] := ⟨none, 0, rfl, Nat.le_refl _, fun _ => rfl, fun h => by simp at h⟩
theorem zero_ex (D : Blocks) (w : World) : ExV D w (.agg #[.int .i64 0, .string ⟨#[]⟩, .int .i64 0, .int .i64 0, .string ⟨#[]⟩, .slice none 0 0]) zeroEx := ⟨_, rfl, no_exs _ _⟩
set_option maxRecDepth 100000
theorem rt_exs : RowType Tryz.prog 50 52 6 80 := .mk' (z := .agg #[.int .i64 0, .string ⟨#[]⟩, .int .i64 0, .int .i64 0, .string ⟨#[]⟩, .slice none 0 0]) Tryz.underlying50 (by kernel_rfl) rfl (by decide)
theorem ExRow.cells {D : Blocks} {w : World} {b : Nat} : ∀ {ts : List Ex} {off : Nat}, ExRow D w b off ts → ∃ xs, ExCells D w xs ts ∧ ∀ j u, xs[j]? = some u → w.cell? ⟨b, off + j, none⟩ = some u := by
 intro ts
 induction ts with
 | nil => intro off _; exact ⟨[], .nil, fun j u h => by simp at h⟩
 | cons t r ih =>
  intro off h
  simp only [ExRow] at h
  obtain ⟨xs, h1, h2⟩ := ih h.2
  obtain ⟨v_kids, x0, x1, x2, x3, x4, x5, q_kids⟩ := (ExAt_iff _ _ _ _ _).1 h.1
  refine ⟨_, .cons t v_kids xs r q_kids h1, fun j u hj => ?_⟩
  match j, hj with
  | 0, hj => simp at hj; subst hj; exact x0
  | 1, hj => simp at hj; subst hj; exact x1
  | 2, hj => simp at hj; subst hj; exact x2
  | 3, hj => simp at hj; subst hj; exact x3
  | 4, hj => simp at hj; subst hj; exact x4
  | 5, hj => simp at hj; subst hj; exact x5
  | j + 6, hj =>
   have := h2 j u (by simpa using hj)
   rw [show off + (j + 6) = off + 6 + j by omega]
   exact this
theorem Exs.src {D : Blocks} {w : World} {A : Option Addr} {n c : Nat} {ts : List Ex} (h : Exs D w (.slice A n c) ts) : n = ts.length ∧ n ≤ c ∧ (A = none → n = 0 ∧ c = 0) ∧ ∃ xs, ExCells D w xs ts ∧ ∀ ad, A = some ad → ∀ j u, xs[j]? = some u → w.cell? (ad.add j) = some u := by
 obtain ⟨A', c', e, hle, hz, h3⟩ := h
 injection e with e1 e2 e3
 subst e1 e2 e3
 refine ⟨rfl, hle, fun e => ⟨by have := hz e; omega, hz e⟩, ?_⟩
 rcases Nat.eq_zero_or_pos ts.length with h0 | h0
 ·obtain rfl := List.eq_nil_of_length_eq_zero h0
  exact ⟨[], .nil, fun _ _ j u hj => by simp at hj⟩
 ·obtain ⟨b, off, rfl, -, hr⟩ := h3 h0
  obtain ⟨xs, h1, h2⟩ := hr.cells
  refine ⟨xs, h1, fun ad e j u hj => ?_⟩
  obtain rfl := Option.some.inj e
  rw [Go.WideShapes.add_plain]
  exact h2 j u hj
theorem Exs.tail {D : Blocks} {w : World} {b off n cap c : Nat} {t : Ex} {ts : List Ex} (h : Exs D w (.slice (some ⟨b, off, none⟩) n cap) (t :: ts)) (hc : ts.length ≤ c) : Exs D w (.slice (some ⟨b, off + 6, none⟩) ts.length c) ts := by
 obtain ⟨A', c', e, hle, hz, h3⟩ := h
 injection e with e1 e2 e3
 obtain ⟨b', off', e', hd, hr⟩ := h3 (by simp)
 rw [← e1] at e'
 obtain ⟨rfl, rfl⟩ : b = b' ∧ off = off' := by have := Option.some.inj e'; injection this with h1 h2; exact ⟨h1, h2⟩
 exact ⟨_, c, rfl, hc, (fun e => by cases e), fun _ => ⟨b, off + 6, rfl, hd, hr.2⟩⟩
end Go.Proofs.YtpidjanngbaiiaaGreatDoor
namespace Go.Proofs.YtpidjanngbaiiaaGreatDoor
open Go.RowKit Go.Proofs

def vchk (s n : Int) (t : List UInt8) : Int :=
 if s = 3 ∧ n = 0 then (if 100 < t.length then 2 else if Lib.validD t = true then 0 else 1)
 else if t = [] ∧ (s = 1 ∨ (s = 2 ∧ (n = 0 ∨ n = 1))) then 0 else 1
end Go.Proofs.YtpidjanngbaiiaaGreatDoor
namespace Go.Proofs.YtpidjanngbaiiaaGreatDoor
open Go.RowKit Go.Proofs

set_option maxRecDepth 100000
def level (op : Str) : Int :=
 if op = [111, 114] then 1 else if op = [97, 110, 100] then 2
 else if op = [61, 61] ∨ op = [60] ∨ op = [60, 61] then 3
 else if op = [43] ∨ op = [45] ∨ op = [43, 43] then 4
 else if op = [42] ∨ op = [47] ∨ op = [37] then 5 else 0
theorem level_lt (op : Str) : 0 ≤ level op ∧ level op ≤ 5 := by
 unfold level
 repeat' split
 all_goals decide
def lone (op : Str) : Bool := decide (op = [110, 111, 116]) || (decide (op = [110, 101, 103]) || decide (op = [35]))
def bare (t : Ex) : Bool := decide (t.vs = 0) && (decide (t.vn = 0) && decide (t.vt = []))
def exOne (t : Ex) : Int :=
 if t.kind = 1 ∧ t.name = [] ∧ t.kids.length = 0 then vchk t.vs t.vn t.vt
 else if t.kind = 2 ∧ bare t = true ∧ t.kids.length = 0 ∧ isName t.name = true then 0
 else if t.kind = 3 ∧ bare t = true ∧ ((lone t.name = true ∧ t.kids.length = 1) ∨ (0 < level t.name ∧ t.kids.length = 2)) then 9
 else 1
section
variable {k : Int} {n : Str} {s v : Int} {x : Str} {ks : List Ex}
theorem exOne_1n (h : n ≠ []) : exOne (.mk 1 n s v x ks) = 1 := by simp [exOne, Ex.kind_mk, Ex.name_mk, h]
theorem exOne_1k (h : ks.length ≠ 0) : exOne (.mk 1 n s v x ks) = 1 := by
 have h' : ks ≠ [] := fun e => h (by rw [e]; rfl)
 simp [exOne, Ex.kind_mk, Ex.name_mk, Ex.kids_mk, h']
theorem exOne_1 (h : ks.length = 0) : exOne (.mk 1 [] s v x ks) = vchk s v x := by unfold exOne; exact if_pos ⟨rfl, rfl, h⟩
theorem exOne_2b (h : bare (.mk 2 n s v x ks) = false) : exOne (.mk 2 n s v x ks) = 1 := by simp [exOne, Ex.kind_mk, h]
theorem exOne_2n (h : isName n = false) : exOne (.mk 2 n s v x ks) = 1 := by simp [exOne, Ex.kind_mk, Ex.name_mk, h]
theorem exOne_2k (h : ks.length ≠ 0) : exOne (.mk 2 n s v x ks) = 1 := by
 have h' : ks ≠ [] := fun e => h (by rw [e]; rfl)
 simp [exOne, Ex.kind_mk, Ex.kids_mk, h']
theorem exOne_2 (h : bare (.mk 2 n s v x ks) = true) (hk : ks.length = 0) (hn : isName n = true) : exOne (.mk 2 n s v x ks) = 0 := by
 have h' : ks = [] := List.eq_nil_of_length_eq_zero hk
 subst h'
 simp [exOne, Ex.kind_mk, Ex.kids_mk, Ex.name_mk, h, hn]
theorem exOne_3 : exOne (.mk 3 n s v x ks) = if bare (.mk 3 n s v x ks) = true ∧ ((lone n = true ∧ ks.length = 1) ∨ (0 < level n ∧ ks.length = 2)) then 9 else 1 := by simp [exOne, Ex.kind_mk, Ex.kids_mk, Ex.name_mk]
theorem exOne_o (h1 : k ≠ 1) (h2 : k ≠ 2) (h3 : k ≠ 3) : exOne (.mk k n s v x ks) = 1 := by simp [exOne, Ex.kind_mk, h1, h2, h3]
end
mutual
def chkE (t : Ex) (left : Int) : Int × Int :=
 match t with
 | .mk k n s v x ks => if left - 1 < 0 then (2, left - 1) else if exOne (.mk k n s v x ks) = 9 then chkEs ks (left - 1) else (exOne (.mk k n s v x ks), left - 1)
def chkEs (ks : List Ex) (left : Int) : Int × Int :=
 match ks with
 | [] => (0, left)
 | k :: r => if (chkE k left).1 = 0 then chkEs r (chkE k left).2 else chkE k left
end
def exErr (t : Ex) : Int := (chkE t 60).1
def listE : Nat → List Ex → Int
 | _, [] => 0
 | 0, _ :: _ => 2
 | m + 1, t :: r => if exOne t = 9 then listE m (t.kids ++ r) else if exOne t = 0 then listE m r else exOne t

def AgreeE (m : Nat) (x : Int × Int) (stack rest : List Ex) : Prop :=
 (x.1 = 0 → ∃ m' : Nat, m' ≤ m ∧ x.2 = m' ∧ listE m stack = listE m' rest) ∧ (x.1 ≠ 0 → listE m stack = x.1)
theorem exOne_9 {t : Ex} (h : exOne t ≠ 9) (h0 : exOne t = 0) : t.kids = [] := by
 unfold exOne at h h0
 split at h0
 ·rename_i h1; exact List.eq_nil_of_length_eq_zero h1.2.2
 ·split at h0
  ·rename_i h1; exact List.eq_nil_of_length_eq_zero h1.2.2.1
  ·split at h0 <;> omega
mutual
theorem agreeE : ∀ (t : Ex) (rest : List Ex) (m : Nat), AgreeE m (chkE t m) (t :: rest) rest
 | .mk k n s v x ks, rest, m => by
  unfold chkE AgreeE
  cases m with
  | zero => simp [listE]
  | succ m =>
   have e1 : ¬ ((m + 1 : Nat) : Int) - 1 < 0 := by omega
   have e2 : ((m + 1 : Nat) : Int) - 1 = (m : Nat) := by omega
   rw [if_neg e1, e2]
   by_cases h9 : exOne (.mk k n s v x ks) = 9
   ·rw [if_pos h9]
    have := agreeEs ks rest m
    unfold AgreeE at this
    refine ⟨fun h => ?_, fun h => ?_⟩
    ·obtain ⟨m', h1, h2, h3⟩ := this.1 h
     exact ⟨m', by omega, h2, by simp only [listE, if_pos h9]; exact h3⟩
    ·simp only [listE, if_pos h9]
     exact this.2 h
   ·rw [if_neg h9]
    refine ⟨fun h => ⟨m, by omega, rfl, ?_⟩, fun h => ?_⟩
    ·simp only at h
     simp only [listE, if_neg h9, if_pos h]
    ·simp only at h
     simp only [listE, if_neg h9, if_neg h]
theorem agreeEs : ∀ (ks : List Ex) (rest : List Ex) (m : Nat), AgreeE m (chkEs ks m) (ks ++ rest) rest
 | [], rest, m => by
  unfold chkEs AgreeE
  exact ⟨fun _ => ⟨m, Nat.le_refl _, rfl, rfl⟩, fun h => absurd rfl h⟩
 | k :: r, rest, m => by
  unfold chkEs
  have h1 := agreeE k (r ++ rest) m
  by_cases h : (chkE k m).1 = 0
  ·rw [if_pos h]
   obtain ⟨m', h2, h3, h4⟩ := h1.1 h
   have h5 := agreeEs r rest m'
   rw [h3]
   unfold AgreeE at h5 ⊢
   rw [List.cons_append, h4]
   refine ⟨fun h => ?_, h5.2⟩
   obtain ⟨m2, h6, h7⟩ := h5.1 h
   exact ⟨m2, by omega, h7⟩
  ·rw [if_neg h]
   exact ⟨fun h' => absurd h' h, h1.2⟩
end
theorem exErr_list (t : Ex) : listE 60 [t] = exErr t := by
 have := agreeE t [] 60
 unfold AgreeE at this
 unfold exErr
 by_cases h : (chkE t (60 : Nat)).1 = 0
 ·obtain ⟨m', _, _, h2⟩ := this.1 h
  rw [h2]
  have e : (chkE t 60).1 = 0 := h
  rw [e]
  cases m' <;> rfl
 ·exact this.2 h


def esc (l : Str) : Str := l.flatMap fun b => if b = 10 then [92, 110] else if b = 92 ∨ b = 34 then [92, b] else [b]
end Go.Proofs.YtpidjanngbaiiaaGreatDoor
namespace Go.Proofs.YtpidjanngbaiiaaGreatDoor
open Go.RowKit Go.Proofs

def lettersGo : Nat → List UInt8 → Option (List Int)
 | 0, _ => some []
 | n + 1, l => if l = [] then some [] else if (Lib.decodeL l).1 = 65533 ∧ (Lib.decodeL l).2 < 2 then none
   else (lettersGo n (l.drop (Lib.decodeL l).2)).map (((Lib.decodeL l).1 : Int) :: ·)
def letters (l : List UInt8) : Option (List Int) := lettersGo l.length l

theorem lettersGo_more : ∀ (n m : Nat) (l : List UInt8), l.length ≤ n → n ≤ m → lettersGo m l = lettersGo n l := by
 intro n
 induction n with
 | zero =>
  intro m l h _
  have : l = [] := List.eq_nil_of_length_eq_zero (by omega)
  subst this
  cases m <;> simp [lettersGo]
 | succ n ih =>
  intro m l h hm
  obtain ⟨k, rfl⟩ : ∃ k, m = k + 1 := ⟨m - 1, by omega⟩
  simp only [lettersGo]
  by_cases he : l = []
  ·simp [he]
  ·have := Lib.decodeL_width l
   have hl : 0 < l.length := List.length_pos_iff.2 he
   rw [ih k (l.drop (Lib.decodeL l).2) (by rw [List.length_drop]; omega) (by omega)]
theorem letters_nil : letters [] = some [] := rfl
theorem letters_bad {l : List UInt8} (h0 : l ≠ []) (h : (Lib.decodeL l).1 = 65533 ∧ (Lib.decodeL l).2 < 2) : letters l = none := by
 unfold letters
 obtain ⟨k, hk⟩ : ∃ k, l.length = k + 1 := ⟨l.length - 1, by have := List.length_pos_iff.2 h0; omega⟩
 rw [hk, lettersGo, if_neg h0, if_pos h]
theorem letters_cons {l : List UInt8} (h0 : l ≠ []) (h : ¬ ((Lib.decodeL l).1 = 65533 ∧ (Lib.decodeL l).2 < 2)) :
  letters l = (letters (l.drop (Lib.decodeL l).2)).map (((Lib.decodeL l).1 : Int) :: ·) := by
 unfold letters
 have := Lib.decodeL_width l
 obtain ⟨k, hk⟩ : ∃ k, l.length = k + 1 := ⟨l.length - 1, by have := List.length_pos_iff.2 h0; omega⟩
 rw [hk, lettersGo, if_neg h0, if_neg h, lettersGo_more (l.drop (Lib.decodeL l).2).length k _ (Nat.le_refl _) (by rw [List.length_drop]; omega)]

theorem decode_any (s : List UInt8) (h0 : s ≠ []) (w : World) (hT : Tabs w) :
  Calls Tryz.prog 101 #[.string ⟨s.toArray⟩] w fun e w' => e = .returned (.tuple #[.int .i32 (Lib.decodeL s).1, .int .i64 (Lib.decodeL s).2]) ∧ Below w.heap.size w w' := by
 refine (Tryz.utf8_DecodeRuneInString ⟨s.toArray⟩ w hT).mono ?_
 rintro e w' ⟨rfl, hb⟩
 refine ⟨?_, hb⟩
 have : Lib.decodeGo ⟨s.toArray⟩ = Lib.decodeL s := by
  unfold Lib.decodeGo Lib.decodeL
  rw [if_neg (by rw [Lib.size_eq]; simpa using h0)]
 rw [this]

abbrev runeCells (rs : List Int) : List Value := rs.map (Value.int .i32)

def LettersEnd (w : World) (a : Option (List Int)) (e : Ending) (w' : World) : Prop :=
 Below w.heap.size w w' ∧ match a with
  | some rs => ∃ v, e = .returned (.tuple #[v, .bool true]) ∧ w'.ownsRow w.heap.size 21 1 v rs.length (runeCells rs)
  | none => e = .returned (.tuple #[.slice none 0 0, .bool false])

set_option maxHeartbeats 1000000 in
theorem letters_any (s : List UInt8) (w : World) (hs : s.length ≤ 1099511627776) (hT : Tabs w) :
  Calls Tryz.prog 64 #[.string ⟨s.toArray⟩] w (LettersEnd w (letters s)) := by
 obtain ⟨ANS, hA⟩ : ∃ x, letters s = x := ⟨_, rfl⟩
 have HA := Lib.hid hA; rw [hA]; clear hA
 go_enter Tryz.func64, Tryz.ntmps64
 go_wp2
 go_loopw [0, 4, 5, 6] (fun s0 v _ _ wr => ∃ (t : List UInt8) (done : List Int), s0 = .string ⟨t.toArray⟩ ∧ Hid (letters s = (letters t).map (done ++ ·)) ∧ done.length + t.length ≤ s.length ∧ wr.ownsRow w.heap.size 21 1 v done.length (runeCells done) ∧ Below w.heap.size w wr)
  (fun s0 _ _ _ _ => match s0 with | .string b => b.size | _ => 0)
 case atStart => exact ⟨s, [], rfl, by simp [Hid], by simp, World.ownsRow_nil _ _ _ _, Below.refl _ _⟩
 case round =>
  obtain ⟨t, done, rfl, hl, hlen, hown, hb⟩ := hrel
  by_cases h0 : t = []
  ·subst h0
   go_wp2
   go_ret2
   refine ⟨hb, ?_⟩
   have h1 := hl.out
   rw [letters_nil, HA.out] at h1
   subst h1
   exact ⟨_, rfl, by simpa using hown⟩
  ·have hp : 0 < t.length := List.length_pos_iff.2 h0
   have hp' : (0 : Int) < (t.length : Int) := by omega
   have hw1 := Lib.decodeL_width t
   have hw2 := Lib.decodeL_le t h0
   obtain ⟨r, hr⟩ : ∃ r, (Lib.decodeL t).1 = r := ⟨_, rfl⟩
   obtain ⟨k, hk⟩ : ∃ k, (Lib.decodeL t).2 = k := ⟨_, rfl⟩
   have hd := decode_any t h0 wr (hT.below hb)
   rw [hr, hk] at hd
   rw [hk] at hw1 hw2
   have Hr := Lib.hid hr
   have Hk := Lib.hid hk
   have Hd := Lib.hid hd
   clear hr hk hd
   by_cases hbad : r = 65533 ∧ k < 2
   ·obtain ⟨b1, b2⟩ := hbad
    have t1 : ((r : Int) == 65533) = true := by rw [beq_iff_eq]; omega
    have t2 : decide ((k : Int) < 2) = true := by rw [decide_eq_true_iff]; omega
    have HB : Hid (letters t = none) := letters_bad h0 ⟨by rw [Hr.out]; exact b1, by rw [Hk.out]; exact b2⟩
    clear b1 b2
    go_wp2_with (go_at_call 101; go_must (refine (Hd.out).mono ?_; rintro e w1 ⟨rfl, hb1⟩))
    go_ret2
    have h1 := hl.out
    rw [HB.out, HA.out] at h1
    subst h1
    exact ⟨step hb hb1 hb.size, rfl⟩
   ·have HN : Hid (letters t = (letters (t.drop k)).map ((r : Int) :: ·)) := by
     have := letters_cons h0 (by rw [Hr.out, Hk.out]; exact hbad)
     rw [Hr.out, Hk.out] at this; exact this
    have hbz : (done.length + 1) * 4 ≤ 140737488355328 := by omega
    have hbn : done.length + 1 ≤ 4611686018427387904 := by omega
    have hq : ((r : Int) == 65533) = false ∨ (((r : Int) == 65533) = true ∧ decide ((k : Int) < 2) = false) := by
     by_cases h5 : r = 65533
     ·refine .inr ⟨by rw [beq_iff_eq]; omega, ?_⟩
      rw [decide_eq_false_iff_not]; intro h; exact hbad ⟨h5, by omega⟩
     ·refine .inl ?_
      rw [beq_eq_false_iff_ne]; omega
    have hwr : w.heap.size ≤ wr.heap.size := hb.size
    clear hbad
    rcases hq with t1 | ⟨t1, t2⟩
    all_goals
     go_wp2_with (first
      | (go_at_call 101; go_must (refine (Hd.out).mono ?_; rintro e w1 ⟨rfl, hb1⟩))
      | (at_builtin; go_must (refine wpList_app1 rt_runes w1 (.int .i32 r) rfl (.tmp 21) (.tmp 23) rfl w.heap.size u4 done.length (runeCells done) rfl (own_keep hown hb1 (Nat.le_refl _)) rfl rfl hbz hbn (Nat.le_trans hwr hb1.size) ?_; intro v2 w2 hown2 _ _ hb2)))
     go_roundw
     case rel =>
      refine ⟨t.drop k, done ++ [(r : Int)], rfl, ?_, by rw [List.length_append, List.length_drop, List.length_singleton]; omega, by simpa using hown2, (step hb hb1 hb.size).trans hb2⟩
      show letters s = _
      rw [hl.out, HN.out]
      cases letters (t.drop k) <;> simp
     case measure => simp [Lib.size_eq]; omega
def enc (r : Int) : List UInt8 := (Utf8.encode r).data.toList

theorem u8 {n : Nat} {b : UInt8} (h : n = b.toNat) : UInt8.ofNat n = b := by subst h; simp

set_option maxRecDepth 1000000 in
theorem dec_enc (l : List UInt8) (h0 : l ≠ []) (hb : ¬ ((Lib.decodeL l).1 = 65533 ∧ (Lib.decodeL l).2 < 2)) :
  l = enc (Lib.decodeL l).1 ++ l.drop (Lib.decodeL l).2 ∧ (enc (Lib.decodeL l).1).length = (Lib.decodeL l).2 ∧ Utf8.valid (Lib.decodeL l).1 = true := by
 have hd := Lib.decodeL_N l
 rw [hd] at hb ⊢
 match l, h0 with
 | b0 :: r, _ =>
  simp only [List.getD_cons_zero, List.getD_cons_succ, List.length_cons] at hb ⊢
  have l0 : b0.toNat < 256 := b0.toNat_lt
  unfold Lib.decodeN at hb ⊢
  split at hb
  ·rename_i h
   rw [if_pos h]
   have hv : Utf8.valid ((b0.toNat : Nat) : Int) = true := by simp [Utf8.valid]; omega
   refine ⟨?_, ?_, hv⟩ <;> simp [enc, Utf8.encode, hv, h]
  ·rename_i h
   rw [if_neg h]
   split at hb
   ·rename_i h2
    rw [if_pos h2]
    obtain ⟨a1, a2, a3⟩ := h2
    match r, a2 with
    | b1 :: r1, _ =>
     simp only [List.getD_cons_zero] at hb a3 ⊢
     split at hb
     ·rename_i h3
      rw [if_pos h3]
      have l1 : b1.toNat < 256 := b1.toNat_lt
      obtain ⟨c, hc⟩ : ∃ c, b0.toNat % 32 * 64 + b1.toNat % 64 = c := ⟨_, rfl⟩
      rw [hc] at h3 ⊢
      have hv : Utf8.valid ((c : Nat) : Int) = true := by simp [Utf8.valid]; omega
      have e : enc ((c : Nat) : Int) = [b0, b1] := by
       simp only [enc, Utf8.encode, hv, if_true, Int.toNat_natCast]
       rw [if_neg (by omega), if_pos (by omega)]
       show [_, _] = _
       rw [u8 (show 192 + c / 64 = b0.toNat by omega), u8 (show 128 + c % 64 = b1.toNat by omega)]
      simp only [e]; exact ⟨by simp, rfl, hv⟩
     ·simp at hb
   ·rename_i h2
    rw [if_neg h2]
    split at hb
    ·rename_i h3
     rw [if_pos h3]
     obtain ⟨a1, ⟨a2, a3⟩, a4, a5⟩ := h3
     match r, a4 with
     | b1 :: b2 :: r1, _ =>
      simp only [List.getD_cons_zero, List.getD_cons_succ] at hb a3 a5 ⊢
      split at hb
      ·rename_i h4
       rw [if_pos h4]
       have l1 : b1.toNat < 256 := b1.toNat_lt
       have l2 : b2.toNat < 256 := b2.toNat_lt
       obtain ⟨c, hc⟩ : ∃ c, b0.toNat % 16 * 4096 + b1.toNat % 64 * 64 + b2.toNat % 64 = c := ⟨_, rfl⟩
       rw [hc] at h4 ⊢
       have hv : Utf8.valid ((c : Nat) : Int) = true := by simp [Utf8.valid]; omega
       have e : enc ((c : Nat) : Int) = [b0, b1, b2] := by
        simp only [enc, Utf8.encode, hv, if_true, Int.toNat_natCast]
        rw [if_neg (by omega), if_neg (by omega), if_pos (by omega)]
        show [_, _, _] = _
        rw [u8 (show 224 + c / 4096 = b0.toNat by omega), u8 (show 128 + c / 64 % 64 = b1.toNat by omega), u8 (show 128 + c % 64 = b2.toNat by omega)]
       simp only [e]; exact ⟨by simp, rfl, hv⟩
      ·simp at hb
    ·rename_i h3
     rw [if_neg h3]
     split at hb
     ·rename_i h4
      rw [if_pos h4]
      obtain ⟨a1, ⟨a2, a3⟩, ⟨a4, a5⟩, a6, a7⟩ := h4
      match r, a6 with
      | b1 :: b2 :: b3 :: r1, _ =>
       simp only [List.getD_cons_zero, List.getD_cons_succ] at hb a3 a5 a7 ⊢
       split at hb
       ·rename_i h5
        rw [if_pos h5]
        have l1 : b1.toNat < 256 := b1.toNat_lt
        have l2 : b2.toNat < 256 := b2.toNat_lt
        have l3 : b3.toNat < 256 := b3.toNat_lt
        obtain ⟨c, hc⟩ : ∃ c, b0.toNat % 8 * 262144 + b1.toNat % 64 * 4096 + b2.toNat % 64 * 64 + b3.toNat % 64 = c := ⟨_, rfl⟩
        rw [hc] at h5 ⊢
        have hv : Utf8.valid ((c : Nat) : Int) = true := by simp [Utf8.valid]; omega
        have e : enc ((c : Nat) : Int) = [b0, b1, b2, b3] := by
         simp only [enc, Utf8.encode, hv, if_true, Int.toNat_natCast]
         rw [if_neg (by omega), if_neg (by omega), if_neg (by omega)]
         show [_, _, _, _] = _
         rw [u8 (show 240 + c / 262144 = b0.toNat by omega), u8 (show 128 + c / 4096 % 64 = b1.toNat by omega), u8 (show 128 + c / 64 % 64 = b2.toNat by omega), u8 (show 128 + c % 64 = b3.toNat by omega)]
        simp only [e]; exact ⟨by simp, rfl, hv⟩
       ·simp at hb
     ·simp at hb

theorem letters_spec : ∀ (n : Nat) (l : List UInt8) (rs : List Int), l.length ≤ n → letters l = some rs → l = rs.flatMap enc ∧ ∀ r ∈ rs, Utf8.valid r = true := by
 intro n
 induction n with
 | zero =>
  intro l rs h e
  have : l = [] := List.eq_nil_of_length_eq_zero (by omega)
  subst this
  rw [letters_nil] at e; cases e; simp
 | succ n ih =>
  intro l rs h e
  by_cases h0 : l = []
  ·subst h0; rw [letters_nil] at e; cases e; simp
  ·by_cases hb : (Lib.decodeL l).1 = 65533 ∧ (Lib.decodeL l).2 < 2
   ·rw [letters_bad h0 hb] at e; cases e
   ·rw [letters_cons h0 hb] at e
    obtain ⟨h1, h2, h3⟩ := dec_enc l h0 hb
    have hw := Lib.decodeL_width l
    have hp : 0 < l.length := List.length_pos_iff.2 h0
    cases hr : letters (l.drop (Lib.decodeL l).2) with
    | none => rw [hr] at e; cases e
    | some r1 =>
     rw [hr] at e; cases e
     obtain ⟨k1, k2⟩ := ih _ r1 (by rw [List.length_drop]; omega) hr
     refine ⟨?_, ?_⟩
     ·rw [List.flatMap_cons, ← k1]; exact h1
     ·intro r hm
      rcases List.mem_cons.1 hm with rfl | hm
      ·exact h3
      ·exact k2 r hm
set_option maxRecDepth 100000
/-! ### Letters -/
theorem dec_of_enc (r : Int) (hv : Utf8.valid r = true) (x : Str) : Lib.decodeL (enc r ++ x) = (r.toNat, (enc r).length) := by
 rw [Lib.decodeL_N]
 have hr : (0 ≤ r ∧ r < 55296) ∨ (57344 ≤ r ∧ r ≤ 1114111) := by
  simp [Utf8.valid] at hv
  omega
 obtain ⟨n, rfl⟩ : ∃ n : Nat, r = (n : Int) := ⟨r.toNat, by omega⟩
 have m8 : ∀ k : Nat, k < 256 → (UInt8.ofNat k).toNat = k := fun k hk => by simp; omega
 rcases Nat.lt_or_ge n 128 with h1 | h1
 ·have e : enc (n : Int) = [UInt8.ofNat n] := by simp only [enc, Utf8.encode, hv, if_true, Int.toNat_natCast]; rw [if_pos h1]
  rw [e]
  simp only [List.cons_append, List.nil_append, List.getD_cons_zero, List.length_cons, Int.toNat_natCast, List.length_nil, Nat.zero_add]
  rw [m8 n (by omega), Lib.decodeN, if_pos h1]
 ·rcases Nat.lt_or_ge n 2048 with h2 | h2
  ·have e : enc (n : Int) = [UInt8.ofNat (192 + n / 64), UInt8.ofNat (128 + n % 64)] := by
    simp only [enc, Utf8.encode, hv, if_true, Int.toNat_natCast]
    rw [if_neg (by omega), if_pos (by omega)]
   rw [e]
   simp only [List.cons_append, List.nil_append, List.getD_cons_zero, List.getD_cons_succ, List.length_cons, Int.toNat_natCast, List.length_nil, Nat.zero_add]
   rw [m8 _ (by omega), m8 _ (by omega), Lib.decodeN, if_neg (by omega), if_pos (by omega), if_pos (by omega)]
   refine Prod.ext ?_ rfl
   show _ = n
   omega
  ·rcases Nat.lt_or_ge n 65536 with h3 | h3
   ·have e : enc (n : Int) = [UInt8.ofNat (224 + n / 4096), UInt8.ofNat (128 + n / 64 % 64), UInt8.ofNat (128 + n % 64)] := by
     simp only [enc, Utf8.encode, hv, if_true, Int.toNat_natCast]
     rw [if_neg (by omega), if_neg (by omega), if_pos (by omega)]
    rw [e]
    simp only [List.cons_append, List.nil_append, List.getD_cons_zero, List.getD_cons_succ, List.length_cons, Int.toNat_natCast, List.length_nil, Nat.zero_add]
    rw [m8 _ (by omega), m8 _ (by omega), m8 _ (by omega), Lib.decodeN, if_neg (by omega), if_neg (by omega), if_pos (by omega), if_pos (by omega)]
    refine Prod.ext ?_ rfl
    show _ = n
    omega
   ·have e : enc (n : Int) = [UInt8.ofNat (240 + n / 262144), UInt8.ofNat (128 + n / 4096 % 64), UInt8.ofNat (128 + n / 64 % 64), UInt8.ofNat (128 + n % 64)] := by
     simp only [enc, Utf8.encode, hv, if_true, Int.toNat_natCast]
     rw [if_neg (by omega), if_neg (by omega), if_neg (by omega)]
    rw [e]
    simp only [List.cons_append, List.nil_append, List.getD_cons_zero, List.getD_cons_succ, List.length_cons, Int.toNat_natCast, List.length_nil, Nat.zero_add]
    rw [m8 _ (by omega), m8 _ (by omega), m8 _ (by omega), m8 _ (by omega), Lib.decodeN, if_neg (by omega), if_neg (by omega), if_neg (by omega), if_pos (by omega), if_pos (by omega)]
    refine Prod.ext ?_ rfl
    show _ = n
    omega
theorem enc_pos (r : Int) (hv : Utf8.valid r = true) : 1 ≤ (enc r).length := by
 have h := dec_of_enc r hv []
 have hw := Lib.decodeL_width (enc r ++ [])
 rw [h] at hw
 exact hw
theorem enc_ne (r : Int) (hv : Utf8.valid r = true) (x : Str) : enc r ++ x ≠ [] := by
 have := enc_pos r hv
 intro e
 rw [List.append_eq_nil_iff] at e
 rw [e.1] at this
 simp at this
theorem enc_good (r : Int) (hv : Utf8.valid r = true) (k : Nat) (hk : k = (enc r).length) : ¬ (r.toNat = 65533 ∧ k < 2) := by
 rintro ⟨h1, h2⟩
 have hr : 0 ≤ r := by
  simp [Utf8.valid] at hv
  omega
 have : r = 65533 := by omega
 subst this
 have e : (enc 65533).length = 3 := by decide +kernel
 omega
theorem letters_enc : ∀ (rs : List Int), (∀ r ∈ rs, Utf8.valid r = true) → letters (rs.flatMap enc) = some rs := by
 intro rs
 induction rs with
 | nil => intro _; rfl
 | cons r rs ih =>
  intro h
  have hv := h r (by simp)
  have hr : 0 ≤ r := by
   simp [Utf8.valid] at hv
   omega
  rw [List.flatMap_cons]
  have hd := dec_of_enc r hv (rs.flatMap enc)
  rw [letters_cons (enc_ne r hv _) (by rw [hd]; exact enc_good r hv _ rfl), hd]
  show Option.map _ (letters (List.drop (enc r).length (enc r ++ _))) = _
  rw [List.drop_left, ih (fun x hx => h x (List.mem_cons_of_mem _ hx))]
  show some (((r.toNat : Nat) : Int) :: rs) = _
  rw [Int.toNat_of_nonneg hr]
theorem validGo_isSome : ∀ (n : Nat) (l : List UInt8), l.length ≤ n → Lib.validGoD n l = (lettersGo n l).isSome := by
 intro n
 induction n with
 | zero => intro l _; rfl
 | succ n ih =>
  intro l hl
  simp only [Lib.validGoD, lettersGo]
  by_cases he : l = []
  ·simp [he]
  ·have hw := Lib.decodeL_width l
   have hp : 0 < l.length := List.length_pos_iff.2 he
   rw [if_neg he, if_neg he]
   by_cases hc : (Lib.decodeL l).1 = 65533 ∧ (Lib.decodeL l).2 = 1
   ·rw [if_pos hc, if_pos ⟨hc.1, by omega⟩]
    rfl
   ·rw [if_neg hc, if_neg (fun e => hc ⟨e.1, by omega⟩), ih _ (by rw [List.length_drop]; omega), Option.isSome_map]
theorem valid_iff (l : Str) : Lib.validD l = true ↔ ∃ rs : List Int, (∀ r ∈ rs, Utf8.valid r = true) ∧ l = rs.flatMap enc := by
 have h : Lib.validD l = (letters l).isSome := validGo_isSome _ _ (Nat.le_refl _)
 rw [h]
 constructor
 ·intro h
  obtain ⟨rs, hrs⟩ := Option.isSome_iff_exists.1 h
  obtain ⟨h1, h2⟩ := letters_spec _ _ _ (Nat.le_refl _) hrs
  exact ⟨rs, h2, h1⟩
 ·rintro ⟨rs, h1, rfl⟩
  rw [letters_enc rs h1]
  rfl
theorem valid_app {a b : Str} (ha : Lib.validD a = true) (hb : Lib.validD b = true) : Lib.validD (a ++ b) = true := by
 obtain ⟨ra, h1, rfl⟩ := (valid_iff a).1 ha
 obtain ⟨rb, h2, rfl⟩ := (valid_iff b).1 hb
 refine (valid_iff _).2 ⟨ra ++ rb, fun r hr => ?_, by rw [List.flatMap_append]⟩
 rcases List.mem_append.1 hr with h | h
 ·exact h1 r h
 ·exact h2 r h
theorem valid_enc {r : Int} (hv : Utf8.valid r = true) : Lib.validD (enc r) = true := (valid_iff _).2 ⟨[r], by simpa using hv, by simp⟩
theorem enc_one {r : Nat} (h : r < 128) : enc (r : Int) = [UInt8.ofNat r] := by
 have hv : Utf8.valid ((r : Nat) : Int) = true := by simp [Utf8.valid]; omega
 simp only [enc, Utf8.encode, hv, if_true, Int.toNat_natCast]; rw [if_pos h]
theorem enc_high {r : Int} (hv : Utf8.valid r = true) (h : 128 ≤ r) : ∀ b ∈ enc r, 128 ≤ b.toNat := by
 obtain ⟨n, rfl⟩ : ∃ n : Nat, r = (n : Int) := ⟨r.toNat, by omega⟩
 have hr : n < 55296 ∨ (57344 ≤ n ∧ n ≤ 1114111) := by
  simp [Utf8.valid] at hv
  omega
 have m8 : ∀ k : Nat, k < 256 → (UInt8.ofNat k).toNat = k := fun k hk => by simp; omega
 intro b hb
 simp only [enc, Utf8.encode, hv, if_true, Int.toNat_natCast] at hb
 rw [if_neg (by omega)] at hb
 split at hb
 ·have hb : b ∈ [UInt8.ofNat (192 + n / 64), UInt8.ofNat (128 + n % 64)] := hb
  simp only [List.mem_cons, List.mem_nil_iff, or_false] at hb
  rcases hb with rfl | rfl <;> (rw [m8 _ (by omega)]; omega)
 ·split at hb
  ·have hb : b ∈ [UInt8.ofNat (224 + n / 4096), UInt8.ofNat (128 + n / 64 % 64), UInt8.ofNat (128 + n % 64)] := hb
   simp only [List.mem_cons, List.mem_nil_iff, or_false] at hb
   rcases hb with rfl | rfl | rfl <;> (rw [m8 _ (by omega)]; omega)
  ·have hb : b ∈ [UInt8.ofNat (240 + n / 262144), UInt8.ofNat (128 + n / 4096 % 64), UInt8.ofNat (128 + n / 64 % 64), UInt8.ofNat (128 + n % 64)] := hb
   simp only [List.mem_cons, List.mem_nil_iff, or_false] at hb
   rcases hb with rfl | rfl | rfl | rfl <;> (rw [m8 _ (by omega)]; omega)
theorem esc_app (a b : Str) : esc (a ++ b) = esc a ++ esc b := by simp [esc]
theorem esc_plain : ∀ {l : Str}, (∀ b ∈ l, b ≠ 10 ∧ b ≠ 34 ∧ b ≠ 92) → esc l = l := by
 intro l
 induction l with
 | nil => intro _; rfl
 | cons b l ih =>
  intro h
  obtain ⟨h1, h2, h3⟩ := h b (by simp)
  have e : esc (b :: l) = (if b = 10 then [92, 110] else if b = 92 ∨ b = 34 then [92, b] else [b]) ++ esc l := rfl
  rw [e, if_neg h1, if_neg (by simp [h2, h3]), ih (fun x hx => h x (List.mem_cons_of_mem _ hx))]
  rfl
theorem esc_single {b : UInt8} (h1 : b ≠ 10) (h2 : b ≠ 34) (h3 : b ≠ 92) : esc [b] = [b] := esc_plain fun x hx => by
 simp only [List.mem_singleton] at hx
 subst hx
 exact ⟨h1, h2, h3⟩
theorem esc_enc {r : Int} (hv : Utf8.valid r = true) (h : r ≠ 10 ∧ r ≠ 34 ∧ r ≠ 92) : esc (enc r) = enc r := by
 have hr : 0 ≤ r := by
  simp [Utf8.valid] at hv
  omega
 apply esc_plain
 intro b hb
 by_cases h1 : r < 128
 ·obtain ⟨n, rfl⟩ : ∃ n : Nat, r = (n : Int) := ⟨r.toNat, by omega⟩
  rw [enc_one (by omega)] at hb
  simp at hb
  subst hb
  have m8 : (UInt8.ofNat n).toNat = n := by simp; omega
  have k : ∀ m : UInt8, UInt8.ofNat n = m → n = m.toNat := fun m e => by rw [← e, m8]
  have k1 : (10 : UInt8).toNat = 10 := rfl
  have k2 : (34 : UInt8).toNat = 34 := rfl
  have k3 : (92 : UInt8).toNat = 92 := rfl
  refine ⟨fun e => ?_, fun e => ?_, fun e => ?_⟩ <;> (have := k _ e; omega)
 ·have := enc_high hv (by omega) b hb
  refine ⟨?_, ?_, ?_⟩ <;> (rintro rfl; revert this; decide)

/-! ### What stands between quotes -/
def pq : Nat → Str → Str → Option Str
 | 0, _, _ => none
 | f + 1, l, out =>
  if l = [] then none
  else if ((Lib.decodeL l).1 = 65533 ∧ (Lib.decodeL l).2 = 1) ∨ (Lib.decodeL l).1 = 10 then none
  else if (Lib.decodeL l).1 = 34 then (if 1 < l.length then none else some out)
  else if (Lib.decodeL l).1 = 92 then
   (if l.length = 1 then none else if l.getD 1 0 = 92 ∨ l.getD 1 0 = 34 then pq f (l.drop 2) (out ++ [l.getD 1 0]) else if l.getD 1 0 = 110 then pq f (l.drop 2) (out ++ [10]) else none)
  else pq f (l.drop (Lib.decodeL l).2) (out ++ enc (Lib.decodeL l).1)
def qt : Nat → Str → Str → Option (Nat × Str)
  | 0, _, _ => none
  | f + 1, l, out =>
    if l = [] then none
    else if l.getD 0 0 = 34 then (if Lib.validD out = true then some (1, out) else none)
    else if l.getD 0 0 = 10 then none
    else if l.getD 0 0 = 92 then
      (if l.length = 1 then none else if l.getD 1 0 = 110 then (qt f (l.drop 2) (out ++ [10])).map fun x => (x.1 + 2, x.2)
       else if l.getD 1 0 = 34 ∨ l.getD 1 0 = 92 then (qt f (l.drop 2) (out ++ [l.getD 1 0])).map fun x => (x.1 + 2, x.2) else none)
    else (qt f (l.drop 1) (out ++ [l.getD 0 0])).map fun x => (x.1 + 1, x.2)
theorem dec_ascii {b : UInt8} {l : Str} (h : b.toNat < 128) : Lib.decodeL (b :: l) = (b.toNat, 1) := by
 rw [Lib.decodeL_N]
 simp only [List.getD_cons_zero, Lib.decodeN, if_pos h]
theorem first_ascii {l : Str} (h0 : l ≠ []) (h : (Lib.decodeL l).1 < 128) (hb : ¬ ((Lib.decodeL l).1 = 65533 ∧ (Lib.decodeL l).2 < 2)) : ∃ r, l = UInt8.ofNat (Lib.decodeL l).1 :: r ∧ (Lib.decodeL l).2 = 1 := by
 obtain ⟨h1, h2, h3⟩ := dec_enc l h0 hb
 rw [enc_one h] at h1 h2
 exact ⟨_, h1, h2.symm⟩
theorem esc_cons (b : UInt8) (l : Str) : esc (b :: l) = esc [b] ++ esc l := esc_app [b] l
theorem pq_some : ∀ (f : Nat) (l out t : Str), Lib.validD out = true → pq f l out = some t → ∃ u, t = out ++ u ∧ l = esc u ++ [34] ∧ Lib.validD t = true := by
 intro f
 induction f with
 | zero => intro l out t _ h; simp [pq] at h
 | succ f ih =>
  intro l out t ho h
  rw [pq] at h
  split at h
  ·cases h
  rename_i h0
  have hw := Lib.decodeL_width l
  split at h
  ·cases h
  rename_i hn
  have hg : ¬ ((Lib.decodeL l).1 = 65533 ∧ (Lib.decodeL l).2 < 2) := fun e => hn (.inl ⟨e.1, by omega⟩)
  have h10 : (Lib.decodeL l).1 ≠ 10 := fun e => hn (.inr e)
  split at h
  ·rename_i h34
   split at h
   ·cases h
   rename_i hl
   injection h with h
   subst h
   obtain ⟨r, hr, -⟩ := first_ascii h0 (by omega) hg
   rw [h34] at hr
   refine ⟨[], by simp, ?_, ho⟩
   rw [hr]
   have : r = [] := by
    rw [hr] at hl
    simp at hl
    exact hl
   rw [this]
   rfl
  rename_i h34
  split at h
  ·rename_i h92
   obtain ⟨r, hr, -⟩ := first_ascii h0 (by omega) hg
   rw [h92] at hr
   split at h
   ·cases h
   rename_i hl
   match r, hr with
   | [], hr => rw [hr] at hl; simp at hl
   | c :: r, hr =>
    rw [hr] at h
    simp only [List.getD_cons_succ, List.getD_cons_zero, List.drop_succ_cons, List.drop_zero] at h
    split at h
    ·rename_i hc
     have hv : Lib.validD [c] = true := by rcases hc with rfl | rfl <;> decide +kernel
     obtain ⟨u, h1, h2, h3⟩ := ih r _ t (valid_app ho hv) h
     refine ⟨c :: u, by rw [h1]; simp, ?_, h3⟩
     rw [hr, h2, esc_cons]
     have : esc [c] = [92, c] := by rcases hc with rfl | rfl <;> rfl
     rw [this]
     rfl
    ·split at h
     ·rename_i hc
      obtain ⟨u, h1, h2, h3⟩ := ih r _ t (valid_app ho (by decide +kernel)) h
      refine ⟨10 :: u, by rw [h1]; simp, ?_, h3⟩
      rw [hr, h2, hc, esc_cons]
      rfl
     ·cases h
  ·rename_i h92
   obtain ⟨h1, h2, h3⟩ := dec_enc l h0 hg
   obtain ⟨u, k1, k2, k3⟩ := ih _ _ t (valid_app ho (valid_enc h3)) h
   refine ⟨enc (Lib.decodeL l).1 ++ u, by rw [k1]; simp, ?_, k3⟩
   rw [esc_app, esc_enc h3 ⟨by omega, by omega, by omega⟩]
   rw [List.append_assoc, ← k2]
   exact h1
theorem pq_of : ∀ (rs : List Int) (f : Nat) (out : Str), (∀ r ∈ rs, Utf8.valid r = true) → (esc (rs.flatMap enc)).length + 1 ≤ f → pq f (esc (rs.flatMap enc) ++ [34]) out = some (out ++ rs.flatMap enc) := by
 intro rs
 induction rs with
 | nil =>
  intro f out _ hf
  obtain ⟨f, rfl⟩ : ∃ k, f = k + 1 := ⟨f - 1, by omega⟩
  have hd : Lib.decodeL [34] = (34, 1) := dec_ascii (by decide)
  show pq (f + 1) [34] out = some (out ++ [])
  rw [pq, hd]
  simp
 | cons r rs ih =>
  intro f out h hf
  have hv := h r (by simp)
  have hr : 0 ≤ r := by
   simp [Utf8.valid] at hv
   omega
  have hp := enc_pos r hv
  rw [List.flatMap_cons, esc_app] at hf ⊢
  obtain ⟨f, rfl⟩ : ∃ k, f = k + 1 := ⟨f - 1, by omega⟩
  by_cases hs : r = 10 ∨ r = 34 ∨ r = 92
  ·have hd : ∀ (x : Str), Lib.decodeL (92 :: x) = (92, 1) := fun x => dec_ascii (by decide)
   rcases hs with rfl | rfl | rfl
   ·have e1 : enc 10 = [10] := by decide +kernel
    rw [e1] at hf ⊢
    have e2 : esc [10] = [92, 110] := rfl
    rw [e2] at hf ⊢
    rw [show [92, 110] ++ esc (rs.flatMap enc) ++ [34] = 92 :: 110 :: (esc (rs.flatMap enc) ++ [34]) by simp, pq, hd, if_neg (by simp), if_neg (by simp), if_neg (by simp), if_pos (by rfl), if_neg (by simp), if_neg (by show ¬ ((110 : UInt8) = 92 ∨ (110 : UInt8) = 34); decide), if_pos (by rfl)]
    show pq f (esc (rs.flatMap enc) ++ [34]) (out ++ [10]) = _
    rw [ih f _ (fun x hx => h x (List.mem_cons_of_mem _ hx)) (by simp at hf; omega)]
    simp
   ·have e1 : enc 34 = [34] := by decide +kernel
    rw [e1] at hf ⊢
    have e2 : esc [34] = [92, 34] := rfl
    rw [e2] at hf ⊢
    rw [show [92, 34] ++ esc (rs.flatMap enc) ++ [34] = 92 :: 34 :: (esc (rs.flatMap enc) ++ [34]) by simp, pq, hd, if_neg (by simp), if_neg (by simp), if_neg (by simp), if_pos (by rfl), if_neg (by simp), if_pos (.inr (by rfl))]
    show pq f (esc (rs.flatMap enc) ++ [34]) (out ++ [34]) = _
    rw [ih f _ (fun x hx => h x (List.mem_cons_of_mem _ hx)) (by simp at hf; omega)]
    simp
   ·have e1 : enc 92 = [92] := by decide +kernel
    rw [e1] at hf ⊢
    have e2 : esc [92] = [92, 92] := rfl
    rw [e2] at hf ⊢
    rw [show [92, 92] ++ esc (rs.flatMap enc) ++ [34] = 92 :: 92 :: (esc (rs.flatMap enc) ++ [34]) by simp, pq, hd, if_neg (by simp), if_neg (by simp), if_neg (by simp), if_pos (by rfl), if_neg (by simp), if_pos (.inl (by rfl))]
    show pq f (esc (rs.flatMap enc) ++ [34]) (out ++ [92]) = _
    rw [ih f _ (fun x hx => h x (List.mem_cons_of_mem _ hx)) (by simp at hf; omega)]
    simp
  ·have hn : r ≠ 10 ∧ r ≠ 34 ∧ r ≠ 92 := ⟨fun e => hs (.inl e), fun e => hs (.inr (.inl e)), fun e => hs (.inr (.inr e))⟩
   rw [esc_enc hv hn] at hf ⊢
   have hd := dec_of_enc r hv (esc (rs.flatMap enc) ++ [34])
   rw [List.append_assoc, pq, hd, if_neg (enc_ne r hv _), if_neg, if_neg (by show ¬ r.toNat = 34; omega), if_neg (by show ¬ r.toNat = 92; omega)]
   ·show pq f (List.drop (enc r).length (enc r ++ _)) (out ++ enc ((r.toNat : Nat) : Int)) = _
    rw [List.drop_left, Int.toNat_of_nonneg hr, ih f _ (fun x hx => h x (List.mem_cons_of_mem _ hx)) (by rw [List.length_append] at hf; omega)]
    simp
   ·show ¬ ((r.toNat = 65533 ∧ (enc r).length = 1) ∨ r.toNat = 10)
    have := enc_good r hv _ rfl
    omega
theorem pq_iff (l t : Str) : pq l.length l [] = some t ↔ l = esc t ++ [34] ∧ Lib.validD t = true := by
 constructor
 ·intro h
  obtain ⟨u, h1, h2, h3⟩ := pq_some _ _ _ _ (by decide +kernel) h
  rw [List.nil_append] at h1
  subst h1
  exact ⟨h2, h3⟩
 ·rintro ⟨h1, h2⟩
  obtain ⟨rs, h3, rfl⟩ := (valid_iff t).1 h2
  subst h1
  rw [pq_of rs _ [] h3 (by simp)]
  rfl
theorem qt_some : ∀ (f : Nat) (l out t : Str) (n : Nat), qt f l out = some (n, t) → ∃ u, t = out ++ u ∧ n ≤ l.length ∧ l.take n = esc u ++ [34] ∧ Lib.validD t = true := by
 intro f
 induction f with
 | zero => intro l out t n h; simp [qt] at h
 | succ f ih =>
  intro l out t n h
  rw [qt] at h
  match l with
  | [] => simp at h
  | b :: r =>
   rw [if_neg (by simp)] at h
   simp only [List.getD_cons_zero, List.drop_succ_cons, List.drop_zero, List.getD_cons_succ] at h
   split at h
   ·rename_i hb
    split at h
    ·rename_i hv
     injection h with h
     injection h with h1 h2
     subst h1 h2
     exact ⟨[], by simp, by simp, by rw [hb]; rfl, hv⟩
    ·cases h
   rename_i h34
   split at h
   ·cases h
   rename_i h10
   split at h
   ·rename_i h92
    split at h
    ·cases h
    rename_i hl
    match r with
    | [] => simp at hl
    | c :: r =>
     simp only [List.getD_cons_zero, List.drop_succ_cons, List.drop_zero] at h
     split at h
     ·rename_i hc
      obtain ⟨⟨m, t'⟩, h1, h2⟩ := Option.map_eq_some_iff.1 h
      injection h2 with h2 h3
      subst h3
      obtain ⟨u, k1, k2, k3, k4⟩ := ih r _ _ m h1
      refine ⟨10 :: u, by rw [k1]; simp, by simp only [List.length_cons]; omega, ?_, k4⟩
      subst h2
      show List.take (m + 2) (b :: c :: r) = _
      rw [List.take_succ_cons, List.take_succ_cons, k3, esc_cons, h92, hc]
      rfl
     ·split at h
      ·rename_i hc
       obtain ⟨⟨m, t'⟩, h1, h2⟩ := Option.map_eq_some_iff.1 h
       injection h2 with h2 h3
       subst h3
       obtain ⟨u, k1, k2, k3, k4⟩ := ih r _ _ m h1
       refine ⟨c :: u, by rw [k1]; simp, by simp only [List.length_cons]; omega, ?_, k4⟩
       subst h2
       show List.take (m + 2) (b :: c :: r) = _
       rw [List.take_succ_cons, List.take_succ_cons, k3, esc_cons, h92]
       have : esc [c] = [92, c] := by rcases hc with rfl | rfl <;> rfl
       rw [this]
       rfl
      ·cases h
   ·rename_i h92
    obtain ⟨⟨m, t'⟩, h1, h2⟩ := Option.map_eq_some_iff.1 h
    injection h2 with h2 h3
    subst h3
    obtain ⟨u, k1, k2, k3, k4⟩ := ih r _ _ m h1
    refine ⟨b :: u, by rw [k1]; simp, by simp only [List.length_cons]; omega, ?_, k4⟩
    subst h2
    show List.take (m + 1) (b :: r) = _
    rw [List.take_succ_cons, k3, esc_cons, esc_single h10 h34 h92]
    rfl
theorem qt_of : ∀ (u : Str) (f : Nat) (out x : Str), (esc u).length + 1 ≤ f → Lib.validD (out ++ u) = true → qt f (esc u ++ 34 :: x) out = some ((esc u).length + 1, out ++ u) := by
 intro u
 induction u with
 | nil =>
  intro f out x hf hv
  obtain ⟨f, rfl⟩ : ∃ k, f = k + 1 := ⟨f - 1, by omega⟩
  rw [List.append_nil] at hv ⊢
  show qt (f + 1) (34 :: x) out = _
  rw [qt, if_neg (by simp), if_pos (by rfl), if_pos hv]
  rfl
 | cons b u ih =>
  intro f out x hf hv
  have hc : out ++ b :: u = out ++ [b] ++ u := by simp
  rw [esc_cons] at hf ⊢
  rw [hc] at hv ⊢
  have hpos : 1 ≤ (esc [b]).length := by
   by_cases h1 : b = 10
   ·subst h1; decide
   ·by_cases h2 : b = 34
    ·subst h2; decide
    ·by_cases h3 : b = 92
     ·subst h3; decide
     ·rw [esc_single h1 h2 h3]; simp
  rw [List.length_append] at hf
  obtain ⟨f, rfl⟩ : ∃ k, f = k + 1 := ⟨f - 1, by omega⟩
  have IH := ih f (out ++ [b]) x (by omega) hv
  by_cases h1 : b = 10
  ·subst h1
   have e2 : esc [10] = [92, 110] := rfl
   rw [e2, show [92, 110] ++ esc u ++ 34 :: x = 92 :: 110 :: (esc u ++ 34 :: x) by simp, qt, if_neg (by simp), if_neg (by simp), if_neg (by simp), if_pos (by rfl), if_neg (by simp), if_pos (by rfl)]
   show Option.map _ (qt f (esc u ++ 34 :: x) (out ++ [10])) = _
   rw [IH]
   simp
  ·by_cases h23 : b = 34 ∨ b = 92
   ·have e2 : esc [b] = [92, b] := by rcases h23 with rfl | rfl <;> rfl
    rw [e2, show [92, b] ++ esc u ++ 34 :: x = 92 :: b :: (esc u ++ 34 :: x) by simp, qt, if_neg (by simp), if_neg (by simp), if_neg (by simp), if_pos (by rfl), if_neg (by simp), if_neg (by rcases h23 with rfl | rfl <;> simp), if_pos (show (92 :: b :: (esc u ++ 34 :: x)).getD 1 0 = 34 ∨ (92 :: b :: (esc u ++ 34 :: x)).getD 1 0 = 92 from h23)]
    show Option.map _ (qt f (esc u ++ 34 :: x) (out ++ [b])) = _
    rw [IH]
    simp
   ·have h2 : b ≠ 34 := fun e => h23 (.inl e)
    have h3 : b ≠ 92 := fun e => h23 (.inr e)
    rw [esc_single h1 h2 h3, show [b] ++ esc u ++ 34 :: x = b :: (esc u ++ 34 :: x) by simp, qt, if_neg (by simp), if_neg (by simpa using h2), if_neg (by simpa using h1), if_neg (by simpa using h3)]
    show Option.map _ (qt f (esc u ++ 34 :: x) (out ++ [b])) = _
    rw [IH]
    simp
end Go.Proofs.YtpidjanngbaiiaaGreatDoor
