/-
  Boxes and rows: what several walks share.
-/
import Derived.Test.YtcacembpegoghaaDoorTyD
import Derived.Test.YtcacembpegoghaaDoorTyT
import Derived.Test.YtcacembpegoghaaDoorHeld
namespace Go.Proofs.YtcacembpegoghaaDoor
open Go.RowKit Go.Proofs

set_option maxRecDepth 100000
theorem grown_set (w : World) (p : Nat) (u : Value) : w.grownBy (w.setCell ⟨p, 0, none⟩ u) (some p) :=
  ⟨rfl, rfl, rfl, by rw [World.size_setCell]; exact Nat.le_refl _, fun b _ h => Below.heap_setCell w _ u b (fun e => h (by rw [e]))⟩
theorem grown_below {w w' : World} (h : Below w.heap.size w w') (row : Option Nat) : w.grownBy w' row := ⟨h.os, h.tape, h.output, h.size, fun b hl _ => h.block b hl⟩
theorem same_p {w w' : World} {p : Nat} (h : w.grownBy w' (some p)) : Same (· ≠ p) w w' := Same.grown h (fun b hb e => hb (by injection e))
theorem VBox.grown {w w' : World} {b p : Nat} {t : Ty} {lv kv : Value} (h : VBox w b t lv kv) (hg : w.grownBy w' (some p)) (hb : b ≠ p) : VBox w' b t lv kv := by
  have hne : some b ≠ some p := fun e => hb (by injection e)
  have hc : ∀ j, w'.cell? ⟨b, j, none⟩ = w.cell? ⟨b, j, none⟩ := fun j => hg.cell_far ⟨b, j, none⟩ h.lt hne
  have hf : ∀ j, w'.frozen? ⟨b, j, none⟩ = w.frozen? ⟨b, j, none⟩ := fun j => hg.frozen_far ⟨b, j, none⟩ h.lt hne
  exact ⟨(hc 0).trans h.c0, (hc 1).trans h.c1, (hc 2).trans h.c2, (hc 3).trans h.c3, (hc 4).trans h.c4, fun j => (hf j).trans (h.fr j), Nat.lt_of_lt_of_le h.lt hg.size⟩
structure Left (w : World) (p : Nat) (left : Int) : Prop where
  c : w.cell? ⟨p, 0, none⟩ = some (.int .i64 left)
  f : w.frozen? ⟨p, 0, none⟩ = false
theorem Left.lt {w : World} {p : Nat} {left : Int} (h : Left w p left) : p < w.heap.size := cell_lt h.c
theorem Left.keep {w w' : World} {p : Nat} {left : Int} (h : Left w p left) (hb : Below w.heap.size w w') : Left w' p left :=
  ⟨cell_keep h.c hb, (hb.frozen (p := ⟨p, 0, none⟩) h.lt).trans h.f⟩
theorem Left.set {w : World} {p : Nat} {left : Int} (h : Left w p left) (l' : Int) : Left (w.setCell ⟨p, 0, none⟩ (.int .i64 l')) p l' :=
  ⟨World.cell?_setCell_same' w _ _ (by rw [h.c]; rfl), by rw [World.frozen?_setCell]; exact h.f⟩

theorem VBox.far5 {w : World} {b q : Nat} {t : Ty} {lv kv : Value} (h : VBox w b t lv kv) (hq : q ≠ b) (x0 x1 x2 x3 x4 : Value) :
    VBox (((((w.setCell ⟨q, 0, none⟩ x0).setCell ⟨q, 1, none⟩ x1).setCell ⟨q, 2, none⟩ x2).setCell ⟨q, 3, none⟩ x3).setCell ⟨q, 4, none⟩ x4) b t lv kv := by
  have h0 := h.far (p := ⟨q, 0, none⟩) hq x0
  have h1 := h0.far (p := ⟨q, 1, none⟩) hq x1
  have h2 := h1.far (p := ⟨q, 2, none⟩) hq x2
  have h3 := h2.far (p := ⟨q, 3, none⟩) hq x3
  exact h3.far (p := ⟨q, 4, none⟩) hq x4
theorem Left.far {w : World} {p : Nat} {left : Int} (h : Left w p left) {a : Addr} (hq : a.block ≠ p) (x : Value) : Left (w.setCell a x) p left :=
  ⟨(World.cell?_setCell_far w a ⟨p, 0, none⟩ x hq).trans h.c, by rw [World.frozen?_setCell]; exact h.f⟩
theorem Left.far5 {w : World} {p q : Nat} {left : Int} (h : Left w p left) (hq : q ≠ p) (x0 x1 x2 x3 x4 : Value) :
    Left (((((w.setCell ⟨q, 0, none⟩ x0).setCell ⟨q, 1, none⟩ x1).setCell ⟨q, 2, none⟩ x2).setCell ⟨q, 3, none⟩ x3).setCell ⟨q, 4, none⟩ x4) p left := by
  have h0 := h.far (a := ⟨q, 0, none⟩) hq x0
  have h1 := h0.far (a := ⟨q, 1, none⟩) hq x1
  have h2 := h1.far (a := ⟨q, 2, none⟩) hq x2
  have h3 := h2.far (a := ⟨q, 3, none⟩) hq x3
  exact h3.far (a := ⟨q, 4, none⟩) hq x4
theorem grown_far {w wr : World} {row : Option Nat} (h : w.grownBy wr row) {a : Addr} (hq : w.heap.size ≤ a.block) (x : Value) : w.grownBy (wr.setCell a x) row := by
  refine ⟨h.os, h.tape, h.output, by rw [World.size_setCell]; exact h.size, fun b hl hne => ?_⟩
  rw [Below.heap_setCell wr a x b (by omega)]
  exact h.block b hl hne
theorem grown_fill {w wr : World} {row : Option Nat} {q : Nat} (h : w.grownBy wr row) (hq : w.heap.size ≤ q) (x0 x1 x2 x3 x4 : Value) :
    w.grownBy (((((wr.setCell ⟨q, 0, none⟩ x0).setCell ⟨q, 1, none⟩ x1).setCell ⟨q, 2, none⟩ x2).setCell ⟨q, 3, none⟩ x3).setCell ⟨q, 4, none⟩ x4) row := by
  have h0 := grown_far h (a := ⟨q, 0, none⟩) hq x0
  have h1 := grown_far h0 (a := ⟨q, 1, none⟩) hq x1
  have h2 := grown_far h1 (a := ⟨q, 2, none⟩) hq x2
  have h3 := grown_far h2 (a := ⟨q, 3, none⟩) hq x3
  exact grown_far h3 (a := ⟨q, 4, none⟩) hq x4
theorem clone_own {D : Blocks} {w : World} {v : Value} {l : List Str} (h : StrsD D w v l) (hl : l.length ≤ 1000) :
    Calls Tryd.prog 147 #[v] w fun e w' => ∃ v', e = .returned v' ∧ w'.ownsRow w.heap.size 9 1 v' l.length (l.map fun s => .string ⟨s.toArray⟩) ∧ Below w.heap.size w w' := by
  obtain ⟨A, cap, rfl, hc, h3⟩ := h
  cases A with
  | none =>
    have h0 : l = [] := by
      rcases Nat.eq_zero_or_pos l.length with h | h
      · exact List.eq_nil_of_length_eq_zero h
      · obtain ⟨b, off, e, _⟩ := h3 h
        cases e
    subst h0
    refine (Tryd.slices_Clone_string_nil _ _ w).mono ?_
    rintro e w' ⟨rfl, rfl⟩
    exact ⟨_, rfl, World.ownsRow_nil _ _ _ _, Below.refl _ _⟩
  | some a =>
    rcases Nat.eq_zero_or_pos l.length with h | h
    · have h0 := List.eq_nil_of_length_eq_zero h
      subst h0
      refine (Tryd.slices_Clone_string_zero a cap w).mono ?_
      rintro e w' ⟨v', rfl, hown, _, hb⟩
      exact ⟨_, rfl, hown, hb⟩
    · obtain ⟨b, off, e, _, hr⟩ := h3 h
      cases e
      refine (Tryd.slices_Clone_string b off l.length cap (l.map fun s => ⟨s.toArray⟩) w (by simp) (by omega) ?_).mono ?_
      · intro j hj
        have hj' : j < l.length := by simpa using hj
        rw [hr j l[j] (by simp [hj'])]
        simp [List.getD, hj']
      · rintro e w' ⟨v', rfl, hown, _, hb⟩
        rw [List.take_of_length_le (by simp), List.map_map] at hown
        exact ⟨_, rfl, hown, hb⟩
theorem own_mono {w : World} {base base' : Nat} {e : TypeId} {size n : Nat} {v : Value} {xs : List Value} (h : w.ownsRow base e size v n xs) (hb : base' ≤ base) : w.ownsRow base' e size v n xs := by
  refine ⟨h.1, h.2.imp id ?_⟩
  rintro ⟨g, cap, cur, h1, h2, h3⟩
  exact ⟨g, cap, cur, h1, by omega, h3⟩
theorem own_strs {D : Blocks} {w : World} {base : Nat} {E : TypeId} {v : Value} {l : List Str} {x : Str} (h : w.ownsRow base E 1 v (l.length + 1) ((l.map fun s => .string ⟨s.toArray⟩) ++ [.string ⟨x.toArray⟩])) (hD : ∀ b, base ≤ b → D b) : StrsD D w v (l ++ [x]) := by
  have hcells := fun g => h.cells (g := g)
  rcases h.2 with ⟨rfl, h0⟩ | ⟨g, cap, cur, rfl, hg, _, hn, _⟩
  · omega
  · refine ⟨_, cap, by simp, by simpa using hn, fun _ => ⟨g, 0, rfl, hD g hg, fun i s hi => ?_⟩⟩
    have := hcells g rfl i (.string ⟨s.toArray⟩) (by
      have e : ((l.map fun s => Value.string ⟨s.toArray⟩) ++ [Value.string ⟨x.toArray⟩]) = (l ++ [x]).map fun s => Value.string ⟨s.toArray⟩ := by simp
      rw [e, List.getElem?_map, hi]; rfl)
    rw [Go.WideShapes.add_plain] at this
    exact this
theorem names_src {w : World} {A : Option Addr} {n c : Nat} {l : List Str} (h : IsStrs w (.slice A n c) l) : ∀ ad, A = some ad → ∀ j u, (l.map fun s => Value.string ⟨s.toArray⟩)[j]? = some u → w.cell? (ad.add j) = some u := by
  obtain ⟨A', c', e, _, h3⟩ := h
  injection e with e1 e2 e3
  subst e1
  intro ad e j u hj
  have hjl : j < l.length := by
    have := (List.getElem?_eq_some_iff.1 hj).1
    simpa using this
  obtain ⟨b, off, e', hr⟩ := h3 (by omega)
  rw [e] at e'
  obtain rfl := Option.some.inj e'
  rw [List.getElem?_map, List.getElem?_eq_getElem hjl] at hj
  simp only [Option.map_some, Option.some.injEq] at hj
  subst hj
  rw [Go.WideShapes.add_plain]
  exact hr j _ (List.getElem?_eq_getElem hjl)
theorem own_names {w : World} {base : Nat} {E : TypeId} {v : Value} {l : List Str} {x : Str} (h : w.ownsRow base E 1 v (l.length + 1) ((l.map fun s => .string ⟨s.toArray⟩) ++ [.string ⟨x.toArray⟩])) : Names w v (l ++ [x]) := by
  refine ⟨(own_strs (D := fun _ => True) h fun _ _ => trivial).is, fun n c e => ?_⟩
  rcases h.2 with ⟨_, h0⟩ | ⟨g, cap, cur, e', _⟩
  · omega
  · rw [e'] at e; cases e
theorem ones_strs (l : List Str) : ∀ u ∈ l.map (fun s => Value.string ⟨s.toArray⟩), u.oneCell' = true := by
  intro u hu
  obtain ⟨s, _, rfl⟩ := List.mem_map.1 hu
  rfl
theorem IsTodos.form {w : World} {ad : Addr} {n c : Nat} {st : List Todo} (h : IsTodos w (.slice (some ad) n c) st) : n = st.length ∧ ∃ xs, Cells6 w xs st ∧ ∀ j u, xs[j]? = some u → w.cell? (ad.add j) = some u := by
  obtain ⟨A, cap, xs, e, _, h3, _, h5⟩ := h
  injection e with e1 e2 e3
  subst e1 e2 e3
  exact ⟨rfl, xs, h3, (h5 _ rfl).2⟩
end Go.Proofs.YtcacembpegoghaaDoor
