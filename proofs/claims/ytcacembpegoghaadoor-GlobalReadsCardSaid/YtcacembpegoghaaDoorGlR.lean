/-
  Labels and kids of a choice while it is being read: two rows of the call's own, for conversations.
-/
import Derived.Test.YtcacembpegoghaaDoorGlO
import Derived.Test.YtcacembpegoghaaDoorHeld2
import Derived.Laws.OwnMore
namespace Go.Proofs.YtcacembpegoghaaDoor
open Go.RowKit Go.Proofs

set_option maxRecDepth 100000
/-- Two rows: labels and kids. -/
structure GRows (w : World) (base : Nat) (lv kv : Value) (ls : List Str) (ks : List Gl) (xs : List Value) : Prop where
  labels : w.ownsRow base 9 1 lv ls.length (strVals ls)
  kids : w.ownsRow base 42 7 kv ks.length xs
  cells : Cells7 (fun k => base ≤ k ∧ lv.ownBlock ≠ some k ∧ kv.ownBlock ≠ some k) w xs ks
  sep : ∀ k, lv.ownBlock = some k → kv.ownBlock ≠ some k
theorem GRows.at {w w' : World} {base b : Nat} {lv kv : Value} {ls : List Str} {ks : List Gl} {xs : List Value} (h : GRows w base lv kv ls ks xs) (hg : w.grownBy w' (some b)) (hb : b < base) : GRows w' base lv kv ls ks xs :=
  ⟨own_at h.labels hg hb, own_at h.kids hg hb, h.cells.keep (fun k hk hl => hg.block k hl (fun e => by have := Option.some.inj e; have := hk.1; omega)) (fun _ hk _ => hk), h.sep⟩
theorem GRows.below {w w' : World} {base : Nat} {lv kv : Value} {ls : List Str} {ks : List Gl} {xs : List Value} (h : GRows w base lv kv ls ks xs) (hb : Below w.heap.size w w') : GRows w' base lv kv ls ks xs :=
  ⟨own_keep h.labels hb (Nat.le_refl _), own_keep h.kids hb (Nat.le_refl _), h.cells.keep (Same.below hb) (fun _ hk _ => hk), h.sep⟩
theorem GRows.set {w : World} {base : Nat} {lv kv : Value} {ls : List Str} {ks : List Gl} {xs : List Value} (h : GRows w base lv kv ls ks xs) {a : Addr} (ha : a.block < base) (u : Value) : GRows (w.setCell a u) base lv kv ls ks xs :=
  ⟨own_set h.labels ha u, own_set h.kids ha u, h.cells.keep (Same.set (fun hk => by have := hk.1; omega)) (fun _ hk _ => hk), h.sep⟩
theorem GRows.drew {w : World} {base : Nat} {lv kv : Value} {ls : List Str} {ks : List Gl} {xs : List Value} (h : GRows w base lv kv ls ks xs) : GRows w.drew base lv kv ls ks xs :=
  h.below (Below.refl _ _).drew
theorem GRows.new (w : World) (base : Nat) : GRows w base (.slice none 0 0) (.slice none 0 0) [] [] [] :=
  ⟨⟨rfl, Or.inl ⟨rfl, rfl⟩⟩, ⟨rfl, Or.inl ⟨rfl, rfl⟩⟩, .nil, fun k hk => by simp [Value.ownBlock] at hk⟩
theorem GRows.strs {D : Blocks} {w : World} {base : Nat} {lv kv : Value} {ls : List Str} {ks : List Gl} {xs : List Value} (h : GRows w base lv kv ls ks xs) (hD : ∀ b, base ≤ b → D b) : StrsD D w lv ls := own_strsD h.labels hD
theorem GRows.gls {D : Blocks} {w : World} {base : Nat} {lv kv : Value} {ls : List Str} {ks : List Gl} {xs : List Value} (h : GRows w base lv kv ls ks xs) (hD : ∀ b, base ≤ b → D b) : Gls D w kv ks :=
  own_gls h.kids (h.cells.keep (D' := D) (fun _ _ _ => rfl) (fun k hk _ => hD k hk.1)) hD
/-- One label more. -/
theorem GRows.label {w w' : World} {base : Nat} {lv lv' kv : Value} {ls : List Str} {ks : List Gl} {xs : List Value} {x : Str} (h : GRows w base lv kv ls ks xs) (hown : w'.ownsRow base 9 1 lv' (ls.length + 1) (strVals ls ++ [.string ⟨x.toArray⟩]))
    (hg : w.grownBy w' lv.ownBlock) (hv : lv'.ownBlock = lv.ownBlock ∨ lv'.ownBlock = some w.heap.size) : GRows w' base lv' kv (ls ++ [x]) ks xs := by
  have hk : kv.ownBlock = none ∨ kv.ownBlock ≠ lv.ownBlock := by
    cases e : kv.ownBlock with
    | none => exact Or.inl rfl
    | some k => exact Or.inr fun e' => h.sep k e'.symm e
  refine ⟨?_, h.kids.kept hg hk, h.cells.keep (fun k hd hl => hg.block k hl (Ne.symm hd.2.1)) (fun k hd hl => ⟨hd.1, ?_, hd.2.2⟩), fun k e => ?_⟩
  · have e : strVals (ls ++ [x]) = strVals ls ++ [.string ⟨x.toArray⟩] := by simp [strVals]
    rw [e, List.length_append]
    exact hown
  · intro e
    rcases hv with h1 | h1
    · exact hd.2.1 (h1.symm.trans e)
    · have := Option.some.inj (h1.symm.trans e); omega
  · intro e'
    rcases hv with h1 | h1
    · exact h.sep k (h1.symm.trans e) e'
    · have h2 := Option.some.inj (h1.symm.trans e)
      have := (h.kids.lt k e').2
      omega
/-- One kid more. -/
theorem GRows.kid {w w' : World} {base : Nat} {lv kv kv' : Value} {ls : List Str} {ks : List Gl} {xs news : List Value} {t : Gl} (h : GRows w base lv kv ls ks xs) (hc : Cells7 (fun k => base ≤ k ∧ lv.ownBlock ≠ some k ∧ kv.ownBlock ≠ some k) w news [t])
    (hown : w'.ownsRow base 42 7 kv' (ks.length + 1) (xs ++ news)) (hg : w.grownBy w' kv.ownBlock) (hv : kv'.ownBlock = kv.ownBlock ∨ kv'.ownBlock = some w.heap.size) : GRows w' base lv kv' ls (ks ++ [t]) (xs ++ news) := by
  have hk : lv.ownBlock = none ∨ lv.ownBlock ≠ kv.ownBlock := by
    cases e : lv.ownBlock with
    | none => exact Or.inl rfl
    | some k => exact Or.inr fun e' => h.sep k e e'.symm
  refine ⟨h.labels.kept hg hk, ?_, Cells7.append (h.cells.keep (fun k hd hl => hg.block k hl (Ne.symm hd.2.2)) fun k hd hl => ⟨hd.1, hd.2.1, ?_⟩) (hc.keep (fun k hd hl => hg.block k hl (Ne.symm hd.2.2)) fun k hd hl => ⟨hd.1, hd.2.1, ?_⟩), fun k e => ?_⟩
  · rw [List.length_append]; exact hown
  · intro e
    rcases hv with h1 | h1
    · exact hd.2.2 (h1.symm.trans e)
    · have := Option.some.inj (h1.symm.trans e); omega
  · intro e
    rcases hv with h1 | h1
    · exact hd.2.2 (h1.symm.trans e)
    · have := Option.some.inj (h1.symm.trans e); omega
  · intro e'
    rcases hv with h1 | h1
    · exact h.sep k e (h1.symm.trans e')
    · have h2 := Option.some.inj (h1.symm.trans e')
      have := (h.labels.lt k e).2
      omega
/-- Both rows laid into their box. -/
theorem GBox.set56 {w : World} {b : Nat} {t : Gl} {lv kv : Value} (h : GBox w b t lv kv) (lv' kv' : Value) : GBox ((w.setCell ⟨b, 5, none⟩ lv').setCell ⟨b, 6, none⟩ kv') b t lv' kv' := by
  have e : ∀ {w : World} {i j : Nat} {u : Value}, i ≠ j → (w.setCell ⟨b, i, none⟩ u).cell? ⟨b, j, none⟩ = w.cell? ⟨b, j, none⟩ := fun h => World.cell?_setCell_other _ _ _ _ (fun e => h (by injection e))
  refine ⟨?_, ?_, ?_, ?_, ?_, ?_, ?_, fun j => by simp only [World.frozen?_setCell]; exact h.fr j, by simp only [World.size_setCell]; exact h.lt⟩
  · rw [e (by decide), e (by decide)]; exact h.c0
  · rw [e (by decide), e (by decide)]; exact h.c1
  · rw [e (by decide), e (by decide)]; exact h.c2
  · rw [e (by decide), e (by decide)]; exact h.c3
  · rw [e (by decide), e (by decide)]; exact h.c4
  · rw [e (by decide)]; exact World.cell?_setCell_same' _ _ _ (by rw [h.c5]; rfl)
  · exact World.cell?_setCell_same' _ _ _ (by rw [e (by decide), h.c6]; rfl)
/-- The labels alone laid into their box. -/
theorem GBox.put5 {w : World} {b : Nat} {t : Gl} {lv kv : Value} (h : GBox w b t lv kv) (lv' : Value) : GBox (w.setCell ⟨b, 5, none⟩ lv') b t lv' kv := by
  have e : ∀ {j : Nat}, 5 ≠ j → (w.setCell ⟨b, 5, none⟩ lv').cell? ⟨b, j, none⟩ = w.cell? ⟨b, j, none⟩ := fun h => World.cell?_setCell_other _ _ _ _ (fun e => h (by injection e))
  exact ⟨(e (by decide)).trans h.c0, (e (by decide)).trans h.c1, (e (by decide)).trans h.c2, (e (by decide)).trans h.c3, (e (by decide)).trans h.c4, World.cell?_setCell_same' _ _ _ (by rw [h.c5]; rfl), (e (by decide)).trans h.c6, fun j => by rw [World.frozen?_setCell]; exact h.fr j, by rw [World.size_setCell]; exact h.lt⟩
/-- The kids alone laid into their box. -/
theorem GBox.put6 {w : World} {b : Nat} {t : Gl} {lv kv : Value} (h : GBox w b t lv kv) (kv' : Value) : GBox (w.setCell ⟨b, 6, none⟩ kv') b t lv kv' := by
  have e : ∀ {j : Nat}, 6 ≠ j → (w.setCell ⟨b, 6, none⟩ kv').cell? ⟨b, j, none⟩ = w.cell? ⟨b, j, none⟩ := fun h => World.cell?_setCell_other _ _ _ _ (fun e => h (by injection e))
  exact ⟨(e (by decide)).trans h.c0, (e (by decide)).trans h.c1, (e (by decide)).trans h.c2, (e (by decide)).trans h.c3, (e (by decide)).trans h.c4, (e (by decide)).trans h.c5, World.cell?_setCell_same' _ _ _ (by rw [h.c6]; rfl), fun j => by rw [World.frozen?_setCell]; exact h.fr j, by rw [World.size_setCell]; exact h.lt⟩
/-- Where the head is done, the tail asks nothing of S. -/
theorem wpT_tail {P : Program} {ops : Array Oper} {Q : Exit → Act → World → Prop} {md : Region.Mode} {S S' : World → Prop} {n n' : Nat} : ∀ (g : Nat) (L : Array Bool) (a : Act) (w : World), (∀ j, j < n → L.getD j false = true) → wpT P md ops Q S' n' g L a w → wpT P md ops Q S n g L a w
  | 0, _, _, _, _, h => h
  | g + 1, L, a, w, hL, h => ⟨h.1, fun i hi => wpOp_mono (fun a' w' h' => ⟨fun hin => by
      have h1 := (mem_ready.1 hi).1
      have h2 := hL i hin
      rcases Nat.lt_or_ge i L.size with hs | hs
      · simp only [Array.getD, hs, dite_true] at h1 h2
        rw [h1] at h2; cases h2
      · simp [Array.getD, Nat.not_lt.2 hs] at h2, wpT_tail g _ a' w' (fun j hj => by
      by_cases hij : i = j
      · subst hij
        have h2 := hL i hj
        rcases Nat.lt_or_ge i L.size with hs | hs
        · simp [Array.getD, hs]
        · simp [Array.getD, Nat.not_lt.2 hs] at h2
      · rw [getD_set_ne false hij]; exact hL j hj) h'.2⟩) (h.2 i hi)⟩
/-- The last of a row of conversations put anew. -/
theorem own_put7 {w : World} {base g cap n : Nat} {e : TypeId} {xs : List Value} {z0 z1 z2 z3 z4 z5 z6 : Value} (h : w.ownsRow base e 7 (.slice (some ⟨g, 0, none⟩) (n + 1) cap) (n + 1) (xs ++ [z0, z1, z2, z3, z4, z5, z6])) (hx : xs.length = n * 7) (a0 a1 a2 a3 a4 a5 a6 : Value) :
    World.ownsRow (((((((w.setCell ⟨g, n * 7, none⟩ a0).setCell ⟨g, n * 7 + 1, none⟩ a1).setCell ⟨g, n * 7 + 2, none⟩ a2).setCell ⟨g, n * 7 + 3, none⟩ a3).setCell ⟨g, n * 7 + 4, none⟩ a4).setCell ⟨g, n * 7 + 5, none⟩ a5).setCell ⟨g, n * 7 + 6, none⟩ a6) base e 7 (.slice (some ⟨g, 0, none⟩) (n + 1) cap) (n + 1) (xs ++ [a0, a1, a2, a3, a4, a5, a6]) := by
  have h7 := ((((((h.stored (n * 7) a0).1.stored (n * 7 + 1) a1).1.stored (n * 7 + 2) a2).1.stored (n * 7 + 3) a3).1.stored (n * 7 + 4) a4).1.stored (n * 7 + 5) a5).1.stored (n * 7 + 6) a6
  replace h7 := h7.1
  have e : ((((((((xs ++ [z0, z1, z2, z3, z4, z5, z6]).set (n * 7) a0).set (n * 7 + 1) a1).set (n * 7 + 2) a2).set (n * 7 + 3) a3).set (n * 7 + 4) a4).set (n * 7 + 5) a5).set (n * 7 + 6) a6) = xs ++ [a0, a1, a2, a3, a4, a5, a6] := by
    rw [← hx]
    simp [List.set_append_right]
  rw [e] at h7
  exact h7
/-- Only two blocks of the old world have changed. -/
structure Two (w w' : World) (b G : Nat) : Prop where
  os : w'.os = w.os
  tape : w'.tape = w.tape
  output : w'.output = w.output
  size : w.heap.size ≤ w'.heap.size
  block : ∀ k, k < w.heap.size → k ≠ b → k ≠ G → w'.heap[k]? = w.heap[k]?
theorem Two.refl (w : World) (b G : Nat) : Two w w b G := ⟨rfl, rfl, rfl, Nat.le_refl _, fun _ _ _ _ => rfl⟩
theorem Two.trans {w w' w'' : World} {b G : Nat} (h : Two w w' b G) (h' : Two w' w'' b G) : Two w w'' b G :=
  ⟨h'.os.trans h.os, h'.tape.trans h.tape, h'.output.trans h.output, Nat.le_trans h.size h'.size, fun k hl h1 h2 => (h'.block k (Nat.lt_of_lt_of_le hl h.size) h1 h2).trans (h.block k hl h1 h2)⟩
theorem Two.step {w w' w'' : World} {b G : Nat} (h : Two w w' b G) (hg : w'.grownBy w'' (some b)) : Two w w'' b G :=
  h.trans ⟨hg.os, hg.tape, hg.output, hg.size, fun k hl h1 _ => hg.block k hl (fun e => h1 (Option.some.inj e))⟩
theorem Two.below {w w' w'' : World} {b G : Nat} (h : Two w w' b G) (hb : Below w'.heap.size w' w'') : Two w w'' b G :=
  h.trans ⟨hb.os, hb.tape, hb.output, hb.size, fun k hl _ _ => hb.block k hl⟩
theorem Two.belowT {w w' w'' : World} {b G B : Nat} (h : Two w w' b G) (hb : Below B w' w'') (hB : w.heap.size ≤ B) : Two w w'' b G :=
  ⟨hb.os.trans h.os, hb.tape.trans h.tape, hb.output.trans h.output, Nat.le_trans h.size hb.size, fun k hl h1 h2 => (hb.block k (by omega)).trans (h.block k hl h1 h2)⟩
theorem Two.set {w w' : World} {b G : Nat} (h : Two w w' b G) {a : Addr} (ha : a.block = G ∨ a.block = b ∨ w.heap.size ≤ a.block) (u : Value) : Two w (w'.setCell a u) b G := by
  refine ⟨h.os, h.tape, h.output, by rw [World.size_setCell]; exact h.size, fun k hl h1 h2 => ?_⟩
  rw [← h.block k hl h1 h2]
  exact Below.heap_setCell w' a u k (by omega)
theorem Two.grown {a w w' : World} {b G : Nat} (t : Two w w' b G) (h : a.grownBy w (some b)) (hG : a.heap.size ≤ G) : a.grownBy w' (some b) :=
  ⟨t.os.trans h.os, t.tape.trans h.tape, t.output.trans h.output, Nat.le_trans h.size t.size, fun q hl hne => (t.block q (Nat.lt_of_lt_of_le hl h.size) (fun e => hne (by rw [e])) (by omega)).trans (h.block q hl hne)⟩
theorem Two.same {w w' : World} {b G : Nat} (t : Two w w' b G) : Same (fun k => k ≠ b ∧ k ≠ G) w w' := fun k hk hl => t.block k hl hk.1 hk.2
theorem GBox.two {w w' : World} {X b G : Nat} {t : Gl} {lv kv : Value} (h : GBox w X t lv kv) (hs : Two w w' b G) (h1 : X ≠ b) (h2 : X ≠ G) : GBox w' X t lv kv := by
  have e := hs.block X h.lt h1 h2
  have hc : ∀ j, w'.cell? ⟨X, j, none⟩ = w.cell? ⟨X, j, none⟩ := fun j => World.cell?_of_block (a := ⟨X, j, none⟩) e
  exact ⟨(hc 0).trans h.c0, (hc 1).trans h.c1, (hc 2).trans h.c2, (hc 3).trans h.c3, (hc 4).trans h.c4, (hc 5).trans h.c5, (hc 6).trans h.c6, fun j => (World.frozen?_of_block (a := ⟨X, j, none⟩) e).trans (h.fr j), Nat.lt_of_lt_of_le h.lt hs.size⟩
/-- Seven cells of one block put: what lies elsewhere stays. -/
theorem put7_facts (w : World) (g o : Nat) (a0 a1 a2 a3 a4 a5 a6 : Value) :
    (∀ {X : Nat} {t : Gl} {lv kv : Value}, GBox w X t lv kv → g ≠ X → GBox (((((((w.setCell ⟨g, o, none⟩ a0).setCell ⟨g, o + 1, none⟩ a1).setCell ⟨g, o + 2, none⟩ a2).setCell ⟨g, o + 3, none⟩ a3).setCell ⟨g, o + 4, none⟩ a4).setCell ⟨g, o + 5, none⟩ a5).setCell ⟨g, o + 6, none⟩ a6) X t lv kv) ∧
    (∀ {b : Nat} {l : Str} {p : Nat}, RBox w b l p → g ≠ b → RBox (((((((w.setCell ⟨g, o, none⟩ a0).setCell ⟨g, o + 1, none⟩ a1).setCell ⟨g, o + 2, none⟩ a2).setCell ⟨g, o + 3, none⟩ a3).setCell ⟨g, o + 4, none⟩ a4).setCell ⟨g, o + 5, none⟩ a5).setCell ⟨g, o + 6, none⟩ a6) b l p) ∧
    (∀ {a : World} {row : Option Nat}, a.grownBy w row → a.heap.size ≤ g → a.grownBy (((((((w.setCell ⟨g, o, none⟩ a0).setCell ⟨g, o + 1, none⟩ a1).setCell ⟨g, o + 2, none⟩ a2).setCell ⟨g, o + 3, none⟩ a3).setCell ⟨g, o + 4, none⟩ a4).setCell ⟨g, o + 5, none⟩ a5).setCell ⟨g, o + 6, none⟩ a6) row) ∧
    (∀ {D : Blocks}, ¬ D g → Same D w (((((((w.setCell ⟨g, o, none⟩ a0).setCell ⟨g, o + 1, none⟩ a1).setCell ⟨g, o + 2, none⟩ a2).setCell ⟨g, o + 3, none⟩ a3).setCell ⟨g, o + 4, none⟩ a4).setCell ⟨g, o + 5, none⟩ a5).setCell ⟨g, o + 6, none⟩ a6)) ∧
    (∀ {w0 : World} {b G : Nat}, Two w0 w b G → w0.heap.size ≤ g → Two w0 (((((((w.setCell ⟨g, o, none⟩ a0).setCell ⟨g, o + 1, none⟩ a1).setCell ⟨g, o + 2, none⟩ a2).setCell ⟨g, o + 3, none⟩ a3).setCell ⟨g, o + 4, none⟩ a4).setCell ⟨g, o + 5, none⟩ a5).setCell ⟨g, o + 6, none⟩ a6) b G) ∧
    (∀ {P : Nat} {v : Value}, OBox w P v → g ≠ P → OBox (((((((w.setCell ⟨g, o, none⟩ a0).setCell ⟨g, o + 1, none⟩ a1).setCell ⟨g, o + 2, none⟩ a2).setCell ⟨g, o + 3, none⟩ a3).setCell ⟨g, o + 4, none⟩ a4).setCell ⟨g, o + 5, none⟩ a5).setCell ⟨g, o + 6, none⟩ a6) P v) := by
  refine ⟨fun h hg => ((((((h.far hg _).far hg _).far hg _).far hg _).far hg _).far hg _).far hg _, fun h hg => ((((((h.far hg _).far hg _).far hg _).far hg _).far hg _).far hg _).far hg _, fun h hg => grown_in (grown_in (grown_in (grown_in (grown_in (grown_in (grown_in h hg _) hg _) hg _) hg _) hg _) hg _) hg _, fun hD => ?_, fun h hg => ((((((h.set (Or.inr (Or.inr hg)) _).set (Or.inr (Or.inr hg)) _).set (Or.inr (Or.inr hg)) _).set (Or.inr (Or.inr hg)) _).set (Or.inr (Or.inr hg)) _).set (Or.inr (Or.inr hg)) _).set (Or.inr (Or.inr hg)) _, fun h hg => ((((((h.far hg _).far hg _).far hg _).far hg _).far hg _).far hg _).far hg _⟩
  intro k hk _
  have hne : k ≠ g := fun e => hD (e ▸ hk)
  rw [Below.heap_setCell _ _ _ _ hne, Below.heap_setCell _ _ _ _ hne, Below.heap_setCell _ _ _ _ hne, Below.heap_setCell _ _ _ _ hne, Below.heap_setCell _ _ _ _ hne, Below.heap_setCell _ _ _ _ hne, Below.heap_setCell _ _ _ _ hne]
/-- Seven cells of one block laid: what lies elsewhere stays. -/
theorem fill7_facts (w : World) (g : Nat) (a0 a1 a2 a3 a4 a5 a6 : Value) :
    (∀ {X : Nat} {t : Gl} {lv kv : Value}, GBox w X t lv kv → g ≠ X → GBox (((((((w.setCell ⟨g, 0, none⟩ a0).setCell ⟨g, 1, none⟩ a1).setCell ⟨g, 2, none⟩ a2).setCell ⟨g, 3, none⟩ a3).setCell ⟨g, 4, none⟩ a4).setCell ⟨g, 5, none⟩ a5).setCell ⟨g, 6, none⟩ a6) X t lv kv) ∧
    (∀ {b : Nat} {l : Str} {p : Nat}, RBox w b l p → g ≠ b → RBox (((((((w.setCell ⟨g, 0, none⟩ a0).setCell ⟨g, 1, none⟩ a1).setCell ⟨g, 2, none⟩ a2).setCell ⟨g, 3, none⟩ a3).setCell ⟨g, 4, none⟩ a4).setCell ⟨g, 5, none⟩ a5).setCell ⟨g, 6, none⟩ a6) b l p) ∧
    (∀ {a : World} {row : Option Nat}, a.grownBy w row → a.heap.size ≤ g → a.grownBy (((((((w.setCell ⟨g, 0, none⟩ a0).setCell ⟨g, 1, none⟩ a1).setCell ⟨g, 2, none⟩ a2).setCell ⟨g, 3, none⟩ a3).setCell ⟨g, 4, none⟩ a4).setCell ⟨g, 5, none⟩ a5).setCell ⟨g, 6, none⟩ a6) row) ∧
    (∀ {D : Blocks}, ¬ D g → Same D w (((((((w.setCell ⟨g, 0, none⟩ a0).setCell ⟨g, 1, none⟩ a1).setCell ⟨g, 2, none⟩ a2).setCell ⟨g, 3, none⟩ a3).setCell ⟨g, 4, none⟩ a4).setCell ⟨g, 5, none⟩ a5).setCell ⟨g, 6, none⟩ a6)) ∧
    (∀ {b : Nat} {l : Str} {s : St}, SBox w b l s → g ≠ b → SBox (((((((w.setCell ⟨g, 0, none⟩ a0).setCell ⟨g, 1, none⟩ a1).setCell ⟨g, 2, none⟩ a2).setCell ⟨g, 3, none⟩ a3).setCell ⟨g, 4, none⟩ a4).setCell ⟨g, 5, none⟩ a5).setCell ⟨g, 6, none⟩ a6) b l s) := by
  refine ⟨fun h hg => ((((((h.far hg _).far hg _).far hg _).far hg _).far hg _).far hg _).far hg _, fun h hg => ((((((h.far hg _).far hg _).far hg _).far hg _).far hg _).far hg _).far hg _, fun h hg => grown_in (grown_in (grown_in (grown_in (grown_in (grown_in (grown_in h hg _) hg _) hg _) hg _) hg _) hg _) hg _, fun hD => Same.fill7 hD _ _ _ _ _ _ _, fun h hg => ((((((h.far hg _).far hg _).far hg _).far hg _).far hg _).far hg _).far hg _⟩
end Go.Proofs.YtcacembpegoghaaDoor
