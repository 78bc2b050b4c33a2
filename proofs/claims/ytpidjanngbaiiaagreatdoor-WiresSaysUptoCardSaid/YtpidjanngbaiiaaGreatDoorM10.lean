/-
  wires' reader of one event.
  The reference's reader: blanks, words and signs, how it fails, and what must stand there.
  The reference's reader: the functions that say what is right, and labels.
  The reference's Must of one sign.
-/
import Derived.Test.YtpidjanngbaiiaaGreatDoorM9
import Derived.Test.YtpidjanngbaiiaaGreatDoorM4
namespace Go.Proofs.YtpidjanngbaiiaaGreatDoor
open Go.RowKit Go.Proofs

set_option maxRecDepth 100000
def EvAns (w : World) (b : Nat) (l : Str) (r : Except Nat (Ev × Nat)) (e : Ending) (w' : World) : Prop := w.grownBy w' (some b) ∧ match r with
 | .ok x => ∃ v, e = .returned v ∧ EvV (fun k => w.heap.size ≤ k) w' v x.1 ∧ RBox w' b l x.2
 | .error q => e = .panicked (wthrown q)
set_option maxHeartbeats 4000000 in
theorem wrev_none (l : Str) (b p : Nat) (c : UInt8) (w : World) (hl : l.length ≤ 1048576) (hc : l[p]? = some c) (hk : c.toNat < 2 ∨ 7 < c.toNat) (hR : RBox w b l p) :
  Calls Tryz.prog 34 #[.pointer (some ⟨b, 0, none⟩)] w fun e w' => EvAns w b l (.error p) e w' := by
 have hone := fun (W : World) (hR : RBox W b l p) => wone_ok l b p c W hl hR hc
 have HONE := Lib.hid hone
 obtain ⟨c0, c1, fr, lt⟩ := id hR
 have h2 : ((c.toNat : Int) == 2) = false := by rw [beq_eq_false_iff_ne]; omega
 have h3 : ((c.toNat : Int) == 3) = false := by rw [beq_eq_false_iff_ne]; omega
 have h4 : ((c.toNat : Int) == 4) = false := by rw [beq_eq_false_iff_ne]; omega
 have h5 : ((c.toNat : Int) == 5) = false := by rw [beq_eq_false_iff_ne]; omega
 have h6 : ((c.toNat : Int) == 6) = false := by rw [beq_eq_false_iff_ne]; omega
 have h7 : ((c.toNat : Int) == 7) = false := by rw [beq_eq_false_iff_ne]; omega
 have hc256 : c.toNat < 256 := c.toNat_lt
 have hw : wrap64 (c.toNat : Int) = (c.toNat : Int) := by unfold wrap64; omega
 clear hone hc hk
 go_enter Tryz.func34, Tryz.ntmps34
 go_wp2_with fail
 have B1 : Below w.heap.size w (w.alloc (.cells (evCells ⟨0, 0, 0, [], zeroTy, []⟩ (.slice none 0 0) (.slice none 0 0)) 32)) := by go_grown
 have hR1 := hR.keep B1
 have hg1 := grown_belowB (grown_refl w b) B1
 refine (HONE.out _ hR1).mono ?_
 rintro e w2 ⟨rfl, hg2, hR2⟩
 have hgw := grown_trans hg1 hg2
 clear hg1 hg2 hR1 B1 hR c0 c1 fr lt
 obtain ⟨c0, c1, fr, lt⟩ := id hR2
 go_wp2_with fail
 exact ⟨rfl, grown_belowB hgw (by go_grown), rfl⟩
structure XBox (w : World) (q : Nat) (e : Ev) (lv kv : Value) : Prop where
 c : EvCells w q 0 e lv kv
 fr : ∀ j, w.frozen? ⟨q, j, none⟩ = false
theorem XBox.keep {w w' : World} {q : Nat} {e : Ev} {lv kv : Value} (h : XBox w q e lv kv) (hb : Below w.heap.size w w') : XBox w' q e lv kv :=
 ⟨h.c.keep hb, fun j => (hb.frozen (p := ⟨q, j, none⟩) h.c.lt).trans (h.fr j)⟩
theorem XBox.grown {w w' : World} {q b : Nat} {e : Ev} {lv kv : Value} (h : XBox w q e lv kv) (hg : w.grownBy w' (some b)) (hq : q ≠ b) : XBox w' q e lv kv := by
 refine ⟨h.c.same (D := fun k => k ≠ b) (Same.grown hg fun k hk e => hk (by injection e)) hq, fun j => ?_⟩
 exact (World.frozen?_of_block (a := ⟨q, j, none⟩) (hg.block q h.c.lt (fun e => hq (by injection e)))).trans (h.fr j)
theorem XBox.new (w : World) (e : Ev) (lv kv : Value) : XBox (w.alloc (.cells (evCells e lv kv) 32)) w.heap.size e lv kv :=
 ⟨evCells_new w e lv kv, fun j => by simp [go_sem]⟩
theorem XBox.set {w : World} {q j : Nat} {e e' : Ev} {lv kv lv' kv' u : Value} (h : XBox w q e lv kv) (h' : ∀ i v, (evCells e' lv' kv')[i]? = some v → (if i = j then v = u else (evCells e lv kv)[i]? = some v)) : XBox (w.setCell ⟨q, j, none⟩ u) q e' lv' kv' := by
 obtain ⟨h0, h1, h2, h3, h4, h5, h6, h7, h8, h9⟩ := h.c.box
 have hold : ∀ i v, (evCells e lv kv)[i]? = some v → w.cell? ⟨q, i, none⟩ = some v := by
  intro i v hv
  match i, hv with
  | 0, hv => injection hv with hv; rw [← hv]; exact h0
  | 1, hv => injection hv with hv; rw [← hv]; exact h1
  | 2, hv => injection hv with hv; rw [← hv]; exact h2
  | 3, hv => injection hv with hv; rw [← hv]; exact h3
  | 4, hv => injection hv with hv; rw [← hv]; exact h4
  | 5, hv => injection hv with hv; rw [← hv]; exact h5
  | 6, hv => injection hv with hv; rw [← hv]; exact h6
  | 7, hv => injection hv with hv; rw [← hv]; exact h7
  | 8, hv => injection hv with hv; rw [← hv]; exact h8
  | 9, hv => injection hv with hv; rw [← hv]; exact h9
  | n + 10, hv => simp at hv
 have hany : ∀ i, i < 10 → ∃ v, w.cell? ⟨q, i, none⟩ = some v := by
  intro i hi
  exact ⟨_, hold i ((evCells e lv kv)[i]'(by simpa using hi)) (Array.getElem?_eq_getElem _)⟩
 have hnew : ∀ i v, i < 10 → (evCells e' lv' kv')[i]? = some v → (w.setCell ⟨q, j, none⟩ u).cell? ⟨q, 0 + i, none⟩ = some v := by
  intro i v hi hv
  rw [Nat.zero_add]
  have := h' i v hv
  by_cases e : i = j
  ·rw [if_pos e] at this
   subst e this
   obtain ⟨x, hx⟩ := hany i hi
   exact World.cell?_setCell_same' _ _ _ (by rw [hx]; rfl)
  ·rw [if_neg e] at this
   exact (World.cell?_setCell_other _ _ _ _ (fun h => e (by injection h with _ h; first | exact h | exact h.symm))).trans (hold i v this)
 refine ⟨⟨hnew 0 _ (by decide) rfl, hnew 1 _ (by decide) rfl, hnew 2 _ (by decide) rfl, hnew 3 _ (by decide) rfl, hnew 4 _ (by decide) rfl, hnew 5 _ (by decide) rfl, hnew 6 _ (by decide) rfl, hnew 7 _ (by decide) rfl, hnew 8 _ (by decide) rfl, hnew 9 _ (by decide) rfl⟩, fun i => by rw [World.frozen?_setCell]; exact h.fr i⟩
theorem XBox.fill {w : World} {q : Nat} {e0 : Ev} {lv0 kv0 : Value} (h : XBox w q e0 lv0 kv0) (e : Ev) (lv kv : Value) : XBox ((((((((((w.setCell ⟨q, 0, none⟩ (.int .i64 e.kind)).setCell ⟨q, 1, none⟩ (.int .i64 e.vs)).setCell ⟨q, 2, none⟩ (.int .i64 e.vn)).setCell ⟨q, 3, none⟩ (.string ⟨e.vt.toArray⟩)).setCell ⟨q, 4, none⟩ (.int .i64 e.ty.kind)).setCell ⟨q, 5, none⟩ (.int .i64 e.ty.sort)).setCell ⟨q, 6, none⟩ (.string ⟨e.ty.name.toArray⟩)).setCell ⟨q, 7, none⟩ (lv)).setCell ⟨q, 8, none⟩ (kv)).setCell ⟨q, 9, none⟩ (.string ⟨e.label.toArray⟩)) q e lv kv := by
 have h0 := h.set (j := 0) (e' := ⟨e.kind, e0.vs, e0.vn, e0.vt, .mk e0.ty.kind e0.ty.sort e0.ty.name [] [], e0.label⟩) (lv' := lv0) (kv' := kv0) (u := .int .i64 e.kind) (fun i v hv => by rcases i with _ | _ | _ | _ | _ | _ | _ | _ | _ | _ | i <;> simp_all [Ty.kind, Ty.sort, Ty.name])
 have h1 := h0.set (j := 1) (e' := ⟨e.kind, e.vs, e0.vn, e0.vt, .mk e0.ty.kind e0.ty.sort e0.ty.name [] [], e0.label⟩) (lv' := lv0) (kv' := kv0) (u := .int .i64 e.vs) (fun i v hv => by rcases i with _ | _ | _ | _ | _ | _ | _ | _ | _ | _ | i <;> simp_all [Ty.kind, Ty.sort, Ty.name])
 have h2 := h1.set (j := 2) (e' := ⟨e.kind, e.vs, e.vn, e0.vt, .mk e0.ty.kind e0.ty.sort e0.ty.name [] [], e0.label⟩) (lv' := lv0) (kv' := kv0) (u := .int .i64 e.vn) (fun i v hv => by rcases i with _ | _ | _ | _ | _ | _ | _ | _ | _ | _ | i <;> simp_all [Ty.kind, Ty.sort, Ty.name])
 have h3 := h2.set (j := 3) (e' := ⟨e.kind, e.vs, e.vn, e.vt, .mk e0.ty.kind e0.ty.sort e0.ty.name [] [], e0.label⟩) (lv' := lv0) (kv' := kv0) (u := .string ⟨e.vt.toArray⟩) (fun i v hv => by rcases i with _ | _ | _ | _ | _ | _ | _ | _ | _ | _ | i <;> simp_all [Ty.kind, Ty.sort, Ty.name])
 have h4 := h3.set (j := 4) (e' := ⟨e.kind, e.vs, e.vn, e.vt, .mk e.ty.kind e0.ty.sort e0.ty.name [] [], e0.label⟩) (lv' := lv0) (kv' := kv0) (u := .int .i64 e.ty.kind) (fun i v hv => by rcases i with _ | _ | _ | _ | _ | _ | _ | _ | _ | _ | i <;> simp_all [Ty.kind, Ty.sort, Ty.name])
 have h5 := h4.set (j := 5) (e' := ⟨e.kind, e.vs, e.vn, e.vt, .mk e.ty.kind e.ty.sort e0.ty.name [] [], e0.label⟩) (lv' := lv0) (kv' := kv0) (u := .int .i64 e.ty.sort) (fun i v hv => by rcases i with _ | _ | _ | _ | _ | _ | _ | _ | _ | _ | i <;> simp_all [Ty.kind, Ty.sort, Ty.name])
 have h6 := h5.set (j := 6) (e' := ⟨e.kind, e.vs, e.vn, e.vt, .mk e.ty.kind e.ty.sort e.ty.name [] [], e0.label⟩) (lv' := lv0) (kv' := kv0) (u := .string ⟨e.ty.name.toArray⟩) (fun i v hv => by rcases i with _ | _ | _ | _ | _ | _ | _ | _ | _ | _ | i <;> simp_all [Ty.kind, Ty.sort, Ty.name])
 have h7 := h6.set (j := 7) (e' := ⟨e.kind, e.vs, e.vn, e.vt, .mk e.ty.kind e.ty.sort e.ty.name [] [], e0.label⟩) (lv' := lv) (kv' := kv0) (u := lv) (fun i v hv => by rcases i with _ | _ | _ | _ | _ | _ | _ | _ | _ | _ | i <;> simp_all [Ty.kind, Ty.sort, Ty.name])
 have h8 := h7.set (j := 8) (e' := ⟨e.kind, e.vs, e.vn, e.vt, .mk e.ty.kind e.ty.sort e.ty.name [] [], e0.label⟩) (lv' := lv) (kv' := kv) (u := kv) (fun i v hv => by rcases i with _ | _ | _ | _ | _ | _ | _ | _ | _ | _ | i <;> simp_all [Ty.kind, Ty.sort, Ty.name])
 have h9 := h8.set (j := 9) (e' := e) (lv' := lv) (kv' := kv) (u := .string ⟨e.label.toArray⟩) (fun i v hv => by rcases i with _ | _ | _ | _ | _ | _ | _ | _ | _ | _ | i <;> simp_all [Ty.kind, Ty.sort, Ty.name])
 exact h9
theorem XBox.set_vs {w : World} {q : Nat} {e : Ev} {lv kv : Value} (h : XBox w q e lv kv) (x : Int) : XBox (w.setCell ⟨q, 1, none⟩ (.int .i64 x)) q ⟨e.kind, x, e.vn, e.vt, e.ty, e.label⟩ lv kv :=
 h.set (fun i v hv => by rcases i with _ | _ | _ | _ | _ | _ | _ | _ | _ | _ | i <;> simp_all [Ty.kind, Ty.sort, Ty.name])
theorem XBox.set_vn {w : World} {q : Nat} {e : Ev} {lv kv : Value} (h : XBox w q e lv kv) (x : Int) : XBox (w.setCell ⟨q, 2, none⟩ (.int .i64 x)) q ⟨e.kind, e.vs, x, e.vt, e.ty, e.label⟩ lv kv :=
 h.set (fun i v hv => by rcases i with _ | _ | _ | _ | _ | _ | _ | _ | _ | _ | i <;> simp_all [Ty.kind, Ty.sort, Ty.name])
theorem XBox.set_vt {w : World} {q : Nat} {e : Ev} {lv kv : Value} (h : XBox w q e lv kv) (x : Str) : XBox (w.setCell ⟨q, 3, none⟩ (.string ⟨x.toArray⟩)) q ⟨e.kind, e.vs, e.vn, x, e.ty, e.label⟩ lv kv :=
 h.set (fun i v hv => by rcases i with _ | _ | _ | _ | _ | _ | _ | _ | _ | _ | i <;> simp_all [Ty.kind, Ty.sort, Ty.name])
theorem XBox.set_lab {w : World} {q : Nat} {e : Ev} {lv kv : Value} (h : XBox w q e lv kv) (x : Str) : XBox (w.setCell ⟨q, 9, none⟩ (.string ⟨x.toArray⟩)) q ⟨e.kind, e.vs, e.vn, e.vt, e.ty, x⟩ lv kv :=
 h.set (fun i v hv => by rcases i with _ | _ | _ | _ | _ | _ | _ | _ | _ | _ | i <;> simp_all [Ty.kind, Ty.sort, Ty.name])
theorem XBox.far {w : World} {q : Nat} {e : Ev} {lv kv : Value} (h : XBox w q e lv kv) {a : Addr} (ha : a.block ≠ q) (u : Value) : XBox (w.setCell a u) q e lv kv :=
 ⟨h.c.same (D := fun k => k ≠ a.block) (Same.set (fun h => h rfl)) (fun e => ha e.symm), fun j => by rw [World.frozen?_setCell]; exact h.fr j⟩
theorem rtext_len {s : Str} {p : Nat} {x : Str × Nat} (h : rtext s p = .ok x) : x.1.length ≤ s.length := by
 unfold rtext at h
 split at h
 ·simp at h
 ·split at h
  ·simp at h
  ·injection h with h
   subst h
   simp only [List.length_take, List.length_drop]
   omega
theorem fin_box {w0 w : World} {q b : Nat} {e0 : Ev} {lv0 kv0 : Value} {l : Str} {p : Nat} (h : XBox w q e0 lv0 kv0) (hR : RBox w b l p) (hg : w0.grownBy w (some b)) (hq : q ≠ b) (hn : w0.heap.size ≤ q) (e : Ev) (lv kv : Value) :
  XBox ((((((((((w.setCell ⟨q, 0, none⟩ (.int .i64 e.kind)).setCell ⟨q, 1, none⟩ (.int .i64 e.vs)).setCell ⟨q, 2, none⟩ (.int .i64 e.vn)).setCell ⟨q, 3, none⟩ (.string ⟨e.vt.toArray⟩)).setCell ⟨q, 4, none⟩ (.int .i64 e.ty.kind)).setCell ⟨q, 5, none⟩ (.int .i64 e.ty.sort)).setCell ⟨q, 6, none⟩ (.string ⟨e.ty.name.toArray⟩)).setCell ⟨q, 7, none⟩ (lv)).setCell ⟨q, 8, none⟩ (kv)).setCell ⟨q, 9, none⟩ (.string ⟨e.label.toArray⟩)) q e lv kv ∧ RBox ((((((((((w.setCell ⟨q, 0, none⟩ (.int .i64 e.kind)).setCell ⟨q, 1, none⟩ (.int .i64 e.vs)).setCell ⟨q, 2, none⟩ (.int .i64 e.vn)).setCell ⟨q, 3, none⟩ (.string ⟨e.vt.toArray⟩)).setCell ⟨q, 4, none⟩ (.int .i64 e.ty.kind)).setCell ⟨q, 5, none⟩ (.int .i64 e.ty.sort)).setCell ⟨q, 6, none⟩ (.string ⟨e.ty.name.toArray⟩)).setCell ⟨q, 7, none⟩ (lv)).setCell ⟨q, 8, none⟩ (kv)).setCell ⟨q, 9, none⟩ (.string ⟨e.label.toArray⟩)) b l p ∧ w0.grownBy ((((((((((w.setCell ⟨q, 0, none⟩ (.int .i64 e.kind)).setCell ⟨q, 1, none⟩ (.int .i64 e.vs)).setCell ⟨q, 2, none⟩ (.int .i64 e.vn)).setCell ⟨q, 3, none⟩ (.string ⟨e.vt.toArray⟩)).setCell ⟨q, 4, none⟩ (.int .i64 e.ty.kind)).setCell ⟨q, 5, none⟩ (.int .i64 e.ty.sort)).setCell ⟨q, 6, none⟩ (.string ⟨e.ty.name.toArray⟩)).setCell ⟨q, 7, none⟩ (lv)).setCell ⟨q, 8, none⟩ (kv)).setCell ⟨q, 9, none⟩ (.string ⟨e.label.toArray⟩)) (some b) ∧ Same (· ≠ q) w ((((((((((w.setCell ⟨q, 0, none⟩ (.int .i64 e.kind)).setCell ⟨q, 1, none⟩ (.int .i64 e.vs)).setCell ⟨q, 2, none⟩ (.int .i64 e.vn)).setCell ⟨q, 3, none⟩ (.string ⟨e.vt.toArray⟩)).setCell ⟨q, 4, none⟩ (.int .i64 e.ty.kind)).setCell ⟨q, 5, none⟩ (.int .i64 e.ty.sort)).setCell ⟨q, 6, none⟩ (.string ⟨e.ty.name.toArray⟩)).setCell ⟨q, 7, none⟩ (lv)).setCell ⟨q, 8, none⟩ (kv)).setCell ⟨q, 9, none⟩ (.string ⟨e.label.toArray⟩)) := by
 refine ⟨h.fill e lv kv, ?_, ?_, ?_⟩
 ·exact (((((((((hR.far hq _).far hq _).far hq _).far hq _).far hq _).far hq _).far hq _).far hq _).far hq _).far hq _
 ·exact grown_far (grown_far (grown_far (grown_far (grown_far (grown_far (grown_far (grown_far (grown_far (grown_far hg hn _) hn _) hn _) hn _) hn _) hn _) hn _) hn _) hn _) hn _
 ·have st : ∀ (w : World) (j : Nat) (u : Value), Same (· ≠ q) w (w.setCell ⟨q, j, none⟩ u) := fun w j u => Same.set (fun h => h rfl)
  have sz : ∀ (w : World) (j : Nat) (u : Value), w.heap.size ≤ (w.setCell ⟨q, j, none⟩ u).heap.size := fun w j u => by rw [World.size_setCell]; exact Nat.le_refl _
  have tr : ∀ {w' : World} (j : Nat) (u : Value), Same (· ≠ q) w w' ∧ w.heap.size ≤ w'.heap.size → Same (· ≠ q) w (w'.setCell ⟨q, j, none⟩ u) ∧ w.heap.size ≤ (w'.setCell ⟨q, j, none⟩ u).heap.size := fun j u h => ⟨h.1.trans h.2 (st _ j u), Nat.le_trans h.2 (sz _ j u)⟩
  exact (tr 9 _ (tr 8 _ (tr 7 _ (tr 6 _ (tr 5 _ (tr 4 _ (tr 3 _ (tr 2 _ (tr 1 _ (tr 0 _ ⟨Same.refl _ _, Nat.le_refl _⟩)))))))))).1
structure Kept (b : Nat) (S : World → Prop) : Prop where
 k : ∀ w w' : World, S w → w.grownBy w' (some b) → S w'
 t : ∀ w : World, S w → Tabs w
 s : ∀ w : World, S w → Sorts w
set_option maxHeartbeats 4000000 in
theorem wrev_lab (l : Str) (b p : Nat) (c : UInt8) (w : World) (hl : l.length ≤ 1048576) (hc : l[p]? = some c) (hk : c.toNat = 6 ∨ c.toNat = 7) (hR : RBox w b l p) (S : World → Prop) (hS : Kept b S) (hw0 : S w) :
  Calls Tryz.prog 34 #[.pointer (some ⟨b, 0, none⟩)] w fun e w' => EvAns w b l (rdLab l c.toNat (p + 1)) e w' := by
 have hp1 : p + 1 ≤ l.length := at_lt hc
 have hone := fun (W : World) (hR : RBox W b l p) => wone_ok l b p c W hl hR hc
 have HONE := Lib.hid hone
 obtain ⟨c0, c1, fr, lt⟩ := id hR
 have h2 : ((c.toNat : Int) == 2) = false := by rw [beq_eq_false_iff_ne]; omega
 have h3 : ((c.toNat : Int) == 3) = false := by rw [beq_eq_false_iff_ne]; omega
 have h4 : ((c.toNat : Int) == 4) = false := by rw [beq_eq_false_iff_ne]; omega
 have h5 : ((c.toNat : Int) == 5) = false := by rw [beq_eq_false_iff_ne]; omega
 have h67 : ((c.toNat : Int) == 6) = true ∨ (((c.toNat : Int) == 6) = false ∧ ((c.toNat : Int) == 7) = true) := by
  rcases hk with h | h
  ·exact .inl (by rw [beq_iff_eq]; omega)
  ·exact .inr ⟨by rw [beq_eq_false_iff_ne]; omega, by rw [beq_iff_eq]; omega⟩
 have hc256 : c.toNat < 256 := c.toNat_lt
 have hw : wrap64 (c.toNat : Int) = (c.toNat : Int) := by unfold wrap64; omega
 obtain ⟨ANS, hA⟩ : ∃ x, rdLab l c.toNat (p + 1) = x := ⟨_, rfl⟩
 rw [hA]
 unfold rdLab at hA
 have HA := Lib.hid hA
 have HK := Lib.hid hk
 clear hone hc hk hA
 obtain ⟨K, hK⟩ : ∃ K, c.toNat = K := ⟨_, rfl⟩
 rw [hK] at h2 h3 h4 h5 h67 hc256 hw HONE HA HK
 clear hK c
 have hdl := hS.t
 cases hq : rtext l (p + 1) with
 | error q =>
  rw [hq] at HA
  have hans : Except.error q = ANS := HA.out
  have HANS := Lib.hid hans
  clear HA hans
  have htext := fun (W : World) (hR : RBox W b l (p + 1)) => wrtext_any l b (p + 1) W hl hp1 hR
  rw [hq] at htext
  have HT := Lib.hid htext
  clear htext hq hdl
  rcases h67 with h6 | ⟨h6, h7⟩
  all_goals (
   go_enter Tryz.func34, Tryz.ntmps34
   go_wp2_with fail
   have B1 : Below w.heap.size w (w.alloc (.cells (evCells ⟨0, 0, 0, [], zeroTy, []⟩ (.slice none 0 0) (.slice none 0 0)) 32)) := by go_grown
   have hR1 := hR.keep B1
   have hg1 := grown_belowB (grown_refl w b) B1
   refine (HONE.out _ hR1).mono ?_
   rintro e w2 ⟨rfl, hg2, hR2⟩
   have hgw := grown_trans hg1 hg2
   clear hR c0 c1 fr lt hR1 hg1 hg2 B1
   obtain ⟨c0, c1, fr, lt⟩ := id hR2
   go_wp2_with fail
   have B3 : Below w2.heap.size w2 (w2.alloc (.cells (evCells ⟨K, 0, 0, [], zeroTy, []⟩ (.slice none 0 0) (.slice none 0 0)) 32)) := by go_grown
   refine (HT.out _ (hR2.keep B3)).mono ?_
   rintro e w4 ⟨hg4, he⟩
   simp only at he
   subst he
   go_wp2_with fail
   exact ⟨rfl, by rw [← HANS.out]; exact ⟨grown_trans (grown_belowB hgw B3) hg4, rfl⟩⟩)
 | ok x =>
  obtain ⟨T, q⟩ := x
  rw [hq] at HA
  have hlen : T.length ≤ l.length := rtext_len hq
  have htext := fun (W : World) (hR : RBox W b l (p + 1)) => wrtext_any l b (p + 1) W hl hp1 hR
  rw [hq] at htext
  have HT := Lib.hid htext
  clear htext hq
  obtain ⟨E, hE⟩ : ∃ E, wchk (tyErr zeroTy) (isName T) ⟨K, 0, 0, [], zeroTy, T⟩ = E := ⟨_, rfl⟩
  have hEz : E = if isName T then 0 else 1 := by
   rw [← hE]
   unfold wchk
   have hk := HK.out
   rw [if_neg (by simp only; omega), if_neg (by simp only; omega)]
   by_cases hn : isName T = true
   ·rw [if_pos ⟨by simp only; omega, hn⟩, if_pos hn]
   ·rw [if_neg (fun h => hn h.2), if_neg hn]
  have HE := Lib.hid hE
  have HEZ := Lib.hid hEz
  have hfit : EvFit ⟨K, 0, 0, [], zeroTy, T⟩ := ⟨by simp only; omega, by simp only; omega, by simp only; omega, by simp only; omega, by simp, fit_no, by simp only; omega⟩
  have HF := Lib.hid hfit
  clear hE hEz hfit
  rcases h67 with h6 | ⟨h6, h7⟩
  all_goals (
   go_enter Tryz.func34, Tryz.ntmps34
   go_wp2_with fail
   have B1 : Below w.heap.size w (w.alloc (.cells (evCells ⟨0, 0, 0, [], zeroTy, []⟩ (.slice none 0 0) (.slice none 0 0)) 32)) := by go_grown
   have X1 : XBox (w.alloc (.cells (evCells ⟨0, 0, 0, [], zeroTy, []⟩ (.slice none 0 0) (.slice none 0 0)) 32)) w.heap.size ⟨0, 0, 0, [], zeroTy, []⟩ (.slice none 0 0) (.slice none 0 0) := XBox.new _ _ _ _
   have hR1 := hR.keep B1
   have hg1 := grown_belowB (grown_refl w b) B1
   have hbw : b < w.heap.size := hR.lt
   refine (HONE.out _ hR1).mono ?_
   rintro e w2 ⟨rfl, hg2, hR2⟩
   have hgw := grown_trans hg1 hg2
   have X2 := X1.grown hg2 (by omega)
   have hq1 : w.heap.size < w2.heap.size := X2.c.lt
   clear hR c0 c1 fr lt hR1 hg1 hg2 B1 X1
   obtain ⟨c0, c1, fr, lt⟩ := id hR2
   go_wp2_with fail
   have B3 : Below w2.heap.size w2 (w2.alloc (.cells (evCells ⟨K, 0, 0, [], zeroTy, []⟩ (.slice none 0 0) (.slice none 0 0)) 32)) := by go_grown
   have Y3 : XBox (w2.alloc (.cells (evCells ⟨K, 0, 0, [], zeroTy, []⟩ (.slice none 0 0) (.slice none 0 0)) 32)) w2.heap.size ⟨K, 0, 0, [], zeroTy, []⟩ (.slice none 0 0) (.slice none 0 0) := XBox.new _ _ _ _
   refine (HT.out _ (hR2.keep B3)).mono ?_
   have hgw3 := grown_belowB hgw B3
   have X3 := X2.keep B3
   clear hgw X2 hR2 B3 c0 c1 fr
   rintro e w4 ⟨hg4, he, hR4⟩
   simp only at he hR4
   subst he
   have Y4 := Y3.grown hg4 (by omega)
   have X4 := X3.grown hg4 (by omega)
   have hgw4 := grown_trans hgw3 hg4
   clear Y3 X3 hgw3 hg4
   go_wp2_with fail
   refine (clone_any T w4 (by omega)).mono ?_
   rintro e w5 ⟨rfl, hb5⟩
   have Y5 := Y4.keep hb5
   have X5 := X4.keep hb5
   have hR5 := hR4.keep hb5
   have hgw5 := grown_belowB hgw4 hb5
   clear Y4 X4 hR4 hgw4 hb5
   obtain ⟨Q2, hQ2⟩ : ∃ Q, w2.heap.size = Q := ⟨_, rfl⟩
   rw [hQ2] at Y5 hq1 lt ⊢
   clear hQ2 w2
   obtain ⟨y0, y1, y2, y3, y4, y5, y6, y7, y8, y9⟩ := Y5.c.box
   have yf := Y5.fr
   go_wp2_with fail
   have Y6 : XBox (w5.setCell ⟨Q2, 9, none⟩ (.string ⟨T.toArray⟩)) Q2 ⟨K, 0, 0, [], zeroTy, T⟩ (.slice none 0 0) (.slice none 0 0) := Y5.set_lab T
   have X6 : XBox (w5.setCell ⟨Q2, 9, none⟩ (.string ⟨T.toArray⟩)) w.heap.size ⟨0, 0, 0, [], zeroTy, []⟩ (.slice none 0 0) (.slice none 0 0) := X5.far (by simp only; omega) _
   have hR6 : RBox (w5.setCell ⟨Q2, 9, none⟩ (.string ⟨T.toArray⟩)) b l q := hR5.far (by simp only; omega) _
   have hgw6 : w.grownBy (w5.setCell ⟨Q2, 9, none⟩ (.string ⟨T.toArray⟩)) (some b) := grown_far hgw5 (by simp only; omega) _
   clear Y5 X5 hR5 hgw5 y0 y1 y2 y3 y4 y5 y6 y7 y8 y9 yf
   generalize w5.setCell ⟨Q2, 9, none⟩ (.string ⟨T.toArray⟩) = w6 at Y6 X6 hR6 hgw6 ⊢
   have hS6 := hS.k _ _ hw0 hgw6
   refine (wcheck_any ⟨K, 0, 0, [], zeroTy, T⟩ _ w6 ⟨_, _, rfl, no_strs' _ _, no_tys _ _⟩ HF.out (hS.t _ hS6)).mono ?_
   have e0 : wchk (tyErr (⟨K, 0, 0, [], zeroTy, T⟩ : Ev).ty) (isName (⟨K, 0, 0, [], zeroTy, T⟩ : Ev).label) ⟨K, 0, 0, [], zeroTy, T⟩ = E := HE.out
   rw [e0]
   clear e0
   rintro e w7 ⟨rfl, hb7⟩
   have Y7 := Y6.keep hb7
   have X7 := X6.keep hb7
   have hR7 := hR6.keep hb7
   have hgw7 := grown_belowB hgw6 hb7
   clear Y6 X6 hR6 hgw6 hb7
   obtain ⟨y0, y1, y2, y3, y4, y5, y6, y7, y8, y9⟩ := Y7.c.box
   obtain ⟨x0, x1, x2, x3, x4, x5, x6, x7, x8, x9⟩ := X7.c.box
   have xf := X7.fr
   have hez := HEZ.out
   by_cases hn : isName T = true
   ·rw [if_pos hn] at hez
    subst hez
    have hans := HA.out
    simp only [if_pos hn] at hans
    have HANS := Lib.hid hans
    clear hans hn HE HEZ
    go_wp2_with fail
    obtain ⟨F1, F2, F3, F4⟩ := fin_box X7 hR7 hgw7 (by omega) (Nat.le_refl _) ⟨K, 0, 0, [], zeroTy, T⟩ (.slice none 0 0) (.slice none 0 0)
    simp only at F1 F2 F3 F4
    generalize ((((((((((w7.setCell ⟨w.heap.size, 0, none⟩ (.int .i64 (K : Int))).setCell ⟨w.heap.size, 1, none⟩ (.int .i64 0)).setCell ⟨w.heap.size, 2, none⟩ (.int .i64 0)).setCell ⟨w.heap.size, 3, none⟩ (.string ⟨#[]⟩)).setCell ⟨w.heap.size, 4, none⟩ (.int .i64 zeroTy.kind)).setCell ⟨w.heap.size, 5, none⟩ (.int .i64 zeroTy.sort)).setCell ⟨w.heap.size, 6, none⟩ (.string ⟨zeroTy.name.toArray⟩)).setCell ⟨w.heap.size, 7, none⟩ (.slice none 0 0)).setCell ⟨w.heap.size, 8, none⟩ (.slice none 0 0)).setCell ⟨w.heap.size, 9, none⟩ (.string ⟨T.toArray⟩)) = w8 at F1 F2 F3 F4 ⊢
    obtain ⟨z0, z1, z2, z3, z4, z5, z6, z7, z8, z9⟩ := F1.c.box
    refine bodyPost_ret (v := evAgg ⟨K, 0, 0, [], zeroTy, T⟩ (.slice none 0 0) (.slice none 0 0)) (by simp [results, Tryz.results34, go_sem, z0, z1, z2, z3, z4, z5, z6, z7, z8, z9]) rfl ?_
    rw [← HANS.out]
    exact ⟨F3, _, rfl, ⟨_, _, rfl, no_strs' _ _, no_tys _ _⟩, F2⟩
   ·rw [if_neg hn] at hez
    subst hez
    have hans := HA.out
    simp only [if_neg hn] at hans
    have HANS := Lib.hid hans
    clear hans hn HE HEZ
    go_wp2_with fail
    exact ⟨rfl, by rw [← HANS.out]; exact ⟨hgw7, rfl⟩⟩)
set_option maxRecDepth 100000
def codeOf : Option Nat → Int | none => 0 | some _ => 3
def placeOf : Option Nat → Int | none => 0 | some q => q
structure SBox (w : World) (b : Nat) (l : Str) (s : St) : Prop where
 c0 : w.cell? ⟨b, 0, none⟩ = some (.string ⟨l.toArray⟩)
 c1 : w.cell? ⟨b, 1, none⟩ = some (.int .i64 s.p)
 c2 : w.cell? ⟨b, 2, none⟩ = some (.bool false)
 c3 : w.cell? ⟨b, 3, none⟩ = some (.int .i64 (codeOf s.bad))
 c4 : w.cell? ⟨b, 4, none⟩ = some (.int .i64 (placeOf s.bad))
 fr : ∀ j, w.frozen? ⟨b, j, none⟩ = false
 lt : b < w.heap.size
theorem SBox.set {w : World} {b : Nat} {l : Str} {p : Nat} {bad : Option Nat} (h : SBox w b l ⟨p, bad⟩) (q : Nat) : SBox (w.setCell ⟨b, 1, none⟩ (.int .i64 q)) b l ⟨q, bad⟩ :=
 ⟨(World.cell?_setCell_other _ _ _ _ (by simp)).trans h.c0, World.cell?_setCell_same' _ _ _ (by rw [h.c1]; rfl), (World.cell?_setCell_other _ _ _ _ (by simp)).trans h.c2, (World.cell?_setCell_other _ _ _ _ (by simp)).trans h.c3, (World.cell?_setCell_other _ _ _ _ (by simp)).trans h.c4,
  fun j => by rw [World.frozen?_setCell]; exact h.fr j, by rw [World.size_setCell]; exact h.lt⟩
theorem SBox.setBad {w : World} {b : Nat} {l : Str} {p : Nat} {bad : Option Nat} (h : SBox w b l ⟨p, bad⟩) (q : Nat) : SBox ((w.setCell ⟨b, 3, none⟩ (.int .i64 3)).setCell ⟨b, 4, none⟩ (.int .i64 q)) b l ⟨p, some q⟩ := by
 have e : ∀ {w : World} {i j : Nat} {u : Value}, i ≠ j → (w.setCell ⟨b, i, none⟩ u).cell? ⟨b, j, none⟩ = w.cell? ⟨b, j, none⟩ := fun h => World.cell?_setCell_other _ _ _ _ (fun e => h (by injection e))
 refine ⟨?_, ?_, ?_, ?_, ?_, fun j => by simp only [World.frozen?_setCell]; exact h.fr j, by simp only [World.size_setCell]; exact h.lt⟩
 ·rw [e (by decide), e (by decide)]; exact h.c0
 ·rw [e (by decide), e (by decide)]; exact h.c1
 ·rw [e (by decide), e (by decide)]; exact h.c2
 ·rw [e (by decide)]; exact World.cell?_setCell_same' _ _ _ (by rw [h.c3]; rfl)
 ·exact World.cell?_setCell_same' _ _ _ (by rw [e (by decide), h.c4]; rfl)
theorem SBox.keep {w w' : World} {b : Nat} {l : Str} {s : St} (h : SBox w b l s) (hb : Below w.heap.size w w') : SBox w' b l s :=
 ⟨cell_keep h.c0 hb, cell_keep h.c1 hb, cell_keep h.c2 hb, cell_keep h.c3 hb, cell_keep h.c4 hb, fun j => (hb.frozen (p := ⟨b, j, none⟩) h.lt).trans (h.fr j), Nat.lt_of_lt_of_le h.lt hb.size⟩
theorem SBox.far {w : World} {b : Nat} {l : Str} {s : St} (h : SBox w b l s) {a : Addr} (ha : a.block ≠ b) (u : Value) : SBox (w.setCell a u) b l s :=
 ⟨(World.cell?_setCell_far w a _ u ha).trans h.c0, (World.cell?_setCell_far w a _ u ha).trans h.c1, (World.cell?_setCell_far w a _ u ha).trans h.c2, (World.cell?_setCell_far w a _ u ha).trans h.c3, (World.cell?_setCell_far w a _ u ha).trans h.c4, fun j => by rw [World.frozen?_setCell]; exact h.fr j, by rw [World.size_setCell]; exact h.lt⟩
theorem SBox.drewN {w : World} {b : Nat} {l : Str} {s : St} (h : SBox w b l s) (n : Nat) : SBox (w.drewN n) b l s := ⟨h.c0, h.c1, h.c2, h.c3, h.c4, h.fr, h.lt⟩

set_option maxHeartbeats 2000000 in
theorem skip_any (l : Str) (b p : Nat) (bad : Option Nat) (w : World) (hl : l.length ≤ 2000) (hp : p ≤ l.length) (hR : SBox w b l ⟨p, bad⟩) :
  Calls Tryz.prog 107 #[.pointer (some ⟨b, 0, none⟩)] w fun e w' => e = .returned (.tuple #[]) ∧ w.grownBy w' (some b) ∧ SBox w' b l ⟨sk l p, bad⟩ := by
 obtain ⟨Q, hQ⟩ : ∃ x, sk l p = x := ⟨_, rfl⟩
 rw [hQ]
 have HQ := Lib.hid hQ; clear hQ
 go_enter Tryz.func107, Tryz.ntmps107
 go_wp2_with fail
 go_loopg [] (l.length - p) (fun gk wr => ∃ k, k ≤ l.length ∧ l.length - k ≤ gk ∧ sk l k = Q ∧ SBox wr b l ⟨k, bad⟩ ∧ w.grownBy wr (some b))
 case atStart => exact ⟨p, hp, Nat.le_refl _, HQ.out, hR, grown_refl w b⟩
 case round =>
  obtain ⟨k, hk, hgk, hq, hB, hg⟩ := hrel
  have HK := Lib.hid hq; clear hq hR
  obtain ⟨c0, c1, c2, c3, c4, fr, lt⟩ := id hB
  by_cases hlt : k < l.length
  ·obtain ⟨x, hx⟩ : ∃ x, l[k]? = some x := ⟨_, List.getElem?_eq_getElem hlt⟩
   have HX := Lib.hid hx; clear hx
   have E : (⟨l.toArray⟩ : ByteArray)[k]'(by simpa [ByteArray.size] using hlt) = x := byte_at' HX.out _
   have hlt' : (k : Int) < (l.length : Int) := by omega
   by_cases h32 : x = 32
   ·subst h32
    go_wp2_with fail
    go_quiet (fail)
    have hB2 := hB.drewN nq
    have hg2 := grown_drewN hg nq
    generalize wr.drewN nq = w2 at hB2 hg2 ⊢
    clear c0 c1 c2 c3 c4 fr lt hB hg
    obtain ⟨c0, c1, c2, c3, c4, fr, lt⟩ := id hB2
    go_wp2_with fail
    go_roundg (l.length - (k + 1))
    case measure => omega
    case rel => exact ⟨k + 1, by omega, Nat.le_refl _, by rw [← HK.out]; exact (sk_step HX.out).symm, by simpa using hB2.set (k + 1), grown_trans hg2 (grown_at _ _ _ _)⟩
   ·have h32' : ((x.toNat : Int) == 32) = false := by
     rw [beq_eq_false_iff_ne]
     intro e
     exact h32 (UInt8.toNat.inj (by simpa using (by omega : x.toNat = 32)))
    go_wp2_with fail
    go_quiet (fail)
    have hB2 := hB.drewN nq
    have hg2 := grown_drewN hg nq
    generalize wr.drewN nq = w2 at hB2 hg2 ⊢
    clear c0 c1 c2 c3 c4 fr lt hB hg
    go_wp2_with fail
    go_end0
    refine ⟨rfl, hg2, ?_⟩
    rw [← HK.out, sk_stop HX.out h32]
    exact hB2
  ·have hlt' : decide ((k : Int) < (l.length : Int)) = false := by simp; omega
   go_wp2_with fail
   go_quiet (fail)
   have hB2 := hB.drewN nq
   have hg2 := grown_drewN hg nq
   generalize wr.drewN nq = w2 at hB2 hg2 ⊢
   clear c0 c1 c2 c3 c4 fr lt hB hg
   go_wp2_with fail
   go_end0
   refine ⟨rfl, hg2, ?_⟩
   rw [← HK.out, sk_end (by omega)]
   exact hB2

theorem wd_step {l : Str} {j : Nat} {x : UInt8} (h : l[j]? = some x) (hx : lowb x = true) : (wd l j).length = (wd l (j + 1)).length + 1 := by
 unfold wd
 rw [drop_at h, List.takeWhile_cons]
 simp [hx]
theorem wd_stop {l : Str} {j : Nat} {x : UInt8} (h : l[j]? = some x) (hx : lowb x = false) : wd l j = [] := by
 unfold wd
 rw [drop_at h, List.takeWhile_cons]
 simp [hx]
theorem wd_end {l : Str} {j : Nat} (h : l.length ≤ j) : wd l j = [] := by
 unfold wd
 rw [List.drop_eq_nil_of_le h]
 rfl
theorem wd_pre (l : Str) (q : Nat) : (l.drop q).take (wd l q).length = wd l q :=
 (List.prefix_iff_eq_take.1 (List.takeWhile_prefix lowb)).symm

set_option maxHeartbeats 2000000 in
theorem peek_any (l : Str) (b p : Nat) (bad : Option Nat) (w : World) (hl : l.length ≤ 2000) (hp : p ≤ l.length) (hR : SBox w b l ⟨p, bad⟩) :
  Calls Tryz.prog 141 #[.pointer (some ⟨b, 0, none⟩)] w fun e w' => e = .returned (.string ⟨(pk l (sk l p)).toArray⟩) ∧ w.grownBy w' (some b) ∧ SBox w' b l ⟨sk l p, bad⟩ := by
 have hs := sk_le hp
 have hcall := skip_any l b p bad w hl hp hR
 generalize sk l p = q at hs hcall ⊢
 obtain ⟨PK, hPK⟩ : ∃ x, pk l q = x := ⟨_, rfl⟩
 rw [hPK]
 have HPK := Lib.hid hPK; clear hPK
 go_enter Tryz.func141, Tryz.ntmps141
 go_wp2_with fail
 refine hcall.mono ?_; clear hcall
 rintro e w1 ⟨rfl, hg1, hB1⟩
 obtain ⟨c0, c1, c2, c3, c4, fr, lt⟩ := id hB1
 go_wp2_with fail
 go_loop [3] (fun i => ∃ j : Nat, q ≤ j ∧ j ≤ l.length ∧ i = .int .i64 j ∧ Hid (j + (wd l j).length = q + (wd l q).length)) (fun i => l.length - (intOf i).toNat)
 case atStart => exact ⟨q, Nat.le_refl _, hs.2, rfl, rfl⟩
 case round =>
  obtain ⟨j, hj1, hj2, rfl, hf⟩ := hrel
  by_cases hlt : j < l.length
  ·obtain ⟨x, hx⟩ : ∃ x, l[j]? = some x := ⟨_, List.getElem?_eq_getElem hlt⟩
   have HX := Lib.hid hx; clear hx
   have E : (⟨l.toArray⟩ : ByteArray)[j]'(by simpa [ByteArray.size] using hlt) = x := byte_at' HX.out _
   by_cases h97 : 97 ≤ x.toNat
   ·by_cases h122 : x.toNat ≤ 122
    ·have g97 : (97 : Int) ≤ (x.toNat : Int) := by omega
     have g122 : (x.toNat : Int) ≤ 122 := by omega
     go_wp2_with fail
     refine ⟨⟨j + 1, by omega, by omega, by simp, ?_⟩, by simp [intOf]; omega⟩
     show j + 1 + (wd l (j + 1)).length = q + (wd l q).length
     rw [← hf.out, wd_step HX.out (by simp [lowb, h97, h122])]
     omega
    ·have g97 : (97 : Int) ≤ (x.toNat : Int) := by omega
     have g122 : ¬ (x.toNat : Int) ≤ 122 := by omega
     have hwj : wd l j = [] := wd_stop HX.out (by simp [lowb, h122])
     have hj : j = q + (wd l q).length := by have := hf.out; rw [hwj] at this; simpa using this
     have HJ := Lib.hid hj
     clear hf hj hwj
     by_cases hjq : j = q
     ·subst hjq
      have hw0 : wd l j = [] := List.eq_nil_of_length_eq_zero (by have := HJ.out; omega)
      have HW0 := Lib.hid hw0
      clear HJ hw0
      by_cases hjl : j < l.length
      ·have k1 : (j : Int) < (l.length : Int) := by omega
       have k3 : (j : Int) ≤ (j : Int) + 1 := by omega
       have k4 : (j : Int) + 1 ≤ (l.length : Int) := by omega
       go_wp2_with fail
       go_quiet (fail)
       have hB2 := hB1.drewN nq
       have hg2 := grown_drewN hg1 nq
       generalize w1.drewN nq = w2 at hB2 hg2 ⊢
       clear c0 c1 c2 c3 c4 fr lt hB1 hg1
       go_wp2_with fail
       go_ret
       refine ⟨?_, hg2, hB2⟩
       rw [← HPK.out]
       have e1 : (l.drop j).take 1 = pk l j := by rw [pk, if_pos HW0.out]
       rw [← e1]
       show Ending.returned (.string (ByteArray.extract ⟨l.toArray⟩ j (j + 1))) = _
       rw [ext_mid, show j + 1 - j = 1 by omega]
      ·exact absurd hlt hjl
     ·have k2 : ((j : Int) == (q : Int)) = false := by rw [beq_eq_false_iff_ne]; omega
      have k3 : (q : Int) ≤ (j : Int) := by omega
      have k4 : (j : Int) ≤ (l.length : Int) := by omega
      go_wp2_with fail
      go_quiet (fail)
      have hB2 := hB1.drewN nq
      have hg2 := grown_drewN hg1 nq
      generalize w1.drewN nq = w2 at hB2 hg2 ⊢
      clear c0 c1 c2 c3 c4 fr lt hB1 hg1
      go_wp2_with fail
      go_ret
      refine ⟨?_, hg2, hB2⟩
      rw [← HPK.out]
      have e1 : (l.drop q).take (j - q) = pk l q := by
       rw [pk, if_neg (fun e => by have := HJ.out; rw [e] at this; simp at this; exact hjq this)]
       have := HJ.out
       rw [show j - q = (wd l q).length by omega]
       exact wd_pre l q
      rw [← e1]
      show Ending.returned (.string (ByteArray.extract ⟨l.toArray⟩ q j)) = _
      rw [ext_mid]
   ·have g97 : decide ((97 : Int) ≤ (x.toNat : Int)) = false := by simp; omega
    have hwj : wd l j = [] := wd_stop HX.out (by simp [lowb, h97])
    have hj : j = q + (wd l q).length := by have := hf.out; rw [hwj] at this; simpa using this
    have HJ := Lib.hid hj
    clear hf hj hwj
    by_cases hjq : j = q
    ·subst hjq
     have hw0 : wd l j = [] := List.eq_nil_of_length_eq_zero (by have := HJ.out; omega)
     have HW0 := Lib.hid hw0
     clear HJ hw0
     by_cases hjl : j < l.length
     ·have k1 : (j : Int) < (l.length : Int) := by omega
      have k3 : (j : Int) ≤ (j : Int) + 1 := by omega
      have k4 : (j : Int) + 1 ≤ (l.length : Int) := by omega
      go_wp2_with fail
      go_quiet (fail)
      have hB2 := hB1.drewN nq
      have hg2 := grown_drewN hg1 nq
      generalize w1.drewN nq = w2 at hB2 hg2 ⊢
      clear c0 c1 c2 c3 c4 fr lt hB1 hg1
      go_wp2_with fail
      go_ret
      refine ⟨?_, hg2, hB2⟩
      rw [← HPK.out]
      have e1 : (l.drop j).take 1 = pk l j := by rw [pk, if_pos HW0.out]
      rw [← e1]
      show Ending.returned (.string (ByteArray.extract ⟨l.toArray⟩ j (j + 1))) = _
      rw [ext_mid, show j + 1 - j = 1 by omega]
     ·exact absurd hlt hjl
    ·have k2 : ((j : Int) == (q : Int)) = false := by rw [beq_eq_false_iff_ne]; omega
     have k3 : (q : Int) ≤ (j : Int) := by omega
     have k4 : (j : Int) ≤ (l.length : Int) := by omega
     go_wp2_with fail
     go_quiet (fail)
     have hB2 := hB1.drewN nq
     have hg2 := grown_drewN hg1 nq
     generalize w1.drewN nq = w2 at hB2 hg2 ⊢
     clear c0 c1 c2 c3 c4 fr lt hB1 hg1
     go_wp2_with fail
     go_ret
     refine ⟨?_, hg2, hB2⟩
     rw [← HPK.out]
     have e1 : (l.drop q).take (j - q) = pk l q := by
      rw [pk, if_neg (fun e => by have := HJ.out; rw [e] at this; simp at this; exact hjq this)]
      have := HJ.out
      rw [show j - q = (wd l q).length by omega]
      exact wd_pre l q
     rw [← e1]
     show Ending.returned (.string (ByteArray.extract ⟨l.toArray⟩ q j)) = _
     rw [ext_mid]
  ·have hwj : wd l j = [] := wd_end (by omega)
   have hj : j = q + (wd l q).length := by have := hf.out; rw [hwj] at this; simpa using this
   have HJ := Lib.hid hj
   clear hf hj hwj
   by_cases hjq : j = q
   ·subst hjq
    have hw0 : wd l j = [] := List.eq_nil_of_length_eq_zero (by have := HJ.out; omega)
    have HW0 := Lib.hid hw0
    clear HJ hw0
    by_cases hjl : j < l.length
    ·exact absurd hjl hlt
    ·have k1 : decide ((j : Int) < (l.length : Int)) = false := by simp; omega
     have k3 : (j : Int) ≤ (j : Int) := by omega
     have k4 : (j : Int) ≤ (l.length : Int) := by omega
     go_wp2_with fail
     go_quiet (fail)
     have hB2 := hB1.drewN nq
     have hg2 := grown_drewN hg1 nq
     generalize w1.drewN nq = w2 at hB2 hg2 ⊢
     clear c0 c1 c2 c3 c4 fr lt hB1 hg1
     go_wp2_with fail
     go_ret
     refine ⟨?_, hg2, hB2⟩
     rw [← HPK.out]
     have e1 : (l.drop j).take 0 = pk l j := by rw [pk, if_pos HW0.out, List.drop_eq_nil_of_le (by omega)]; rfl
     rw [← e1]
     rfl
   ·have k2 : ((j : Int) == (q : Int)) = false := by rw [beq_eq_false_iff_ne]; omega
    have k3 : (q : Int) ≤ (j : Int) := by omega
    have k4 : (j : Int) ≤ (l.length : Int) := by omega
    go_wp2_with fail
    go_quiet (fail)
    have hB2 := hB1.drewN nq
    have hg2 := grown_drewN hg1 nq
    generalize w1.drewN nq = w2 at hB2 hg2 ⊢
    clear c0 c1 c2 c3 c4 fr lt hB1 hg1
    go_wp2_with fail
    go_ret
    refine ⟨?_, hg2, hB2⟩
    rw [← HPK.out]
    have e1 : (l.drop q).take (j - q) = pk l q := by
     rw [pk, if_neg (fun e => by have := HJ.out; rw [e] at this; simp at this; exact hjq this)]
     have := HJ.out
     rw [show j - q = (wd l q).length by omega]
     exact wd_pre l q
    rw [← e1]
    show Ending.returned (.string (ByteArray.extract ⟨l.toArray⟩ q j)) = _
    rw [ext_mid]

set_option maxHeartbeats 2000000 in
theorem Fail_none (l : Str) (b p : Nat) (w : World) (hl : l.length ≤ 2000) (hp : p ≤ l.length) (hR : SBox w b l ⟨p, none⟩) :
  Calls Tryz.prog 169 #[.pointer (some ⟨b, 0, none⟩)] w fun e w' => e = .returned (.tuple #[]) ∧ w.grownBy w' (some b) ∧ SBox w' b l ⟨sk l p, some (sk l p)⟩ := by
 have hcall := skip_any l b p none w hl hp hR
 generalize sk l p = q at hcall ⊢
 obtain ⟨c0, c1, c2, c3, c4, fr, lt⟩ := id hR
 simp only [codeOf, placeOf] at c3 c4
 go_enter Tryz.func169, Tryz.ntmps169
 go_wp2_with fail
 refine hcall.mono ?_; clear hcall
 rintro e w1 ⟨rfl, hg1, hB1⟩
 clear c0 c1 c2 c3 c4 fr lt
 obtain ⟨c0, c1, c2, c3, c4, fr, lt⟩ := id hB1
 simp only [codeOf, placeOf] at c3 c4
 go_wp2_with fail
 go_end0
 exact ⟨rfl, grown_trans hg1 (grown_trans (grown_at _ _ _ _) (grown_at _ _ _ _)), hB1.setBad q⟩
def isFn (a : Addr) : Value := .func (.func 170) #[] #[.pointer (some a)]
theorem Is_any (c : Str) (w : World) :
  Calls Tryz.prog 140 #[.string ⟨c.toArray⟩] w fun e w' => e = .returned (isFn ⟨w.heap.size, 0, none⟩) ∧ w' = w.alloc (.cells #[.string ⟨c.toArray⟩] 9) := by
 have hmf : ∀ (fn : Fn) (first cap : Array Value) (w : World), (Instr.makeFunc fn first cap).run Tryz.prog w = .ok (.func fn first cap) w := fun _ _ _ _ => rfl
 go_enter Tryz.func140, Tryz.ntmps140
 go_wp2_with fail
 go_ret
 exact ⟨rfl, rfl⟩
theorem Is1_any (c x : Str) (a : Nat) (w : World) (h : w.cell? ⟨a, 0, none⟩ = some (.string ⟨c.toArray⟩)) :
  Calls Tryz.prog 170 #[.string ⟨x.toArray⟩, .pointer (some ⟨a, 0, none⟩)] w fun e w' => e = .returned (.bool (isW c x)) ∧ w' = w := by
 go_enter Tryz.func170, Tryz.ntmps170
 go_wp2_with fail
 go_ret
 refine ⟨ret_bool ?_, rfl⟩
 rw [Bool.eq_iff_iff, beq_iff_eq, isW, decide_eq_true_eq]

set_option maxHeartbeats 2000000 in
theorem must_any (right : Str → Bool) (F : FuncId) (cap : Array Value) (hF : ∀ (args : Array Value) (w : World), (callFunc F args).run Tryz.prog w = .ok (.enter F args) w) (l : Str) (b p : Nat) (bad : Option Nat) (w : World) (hl : l.length ≤ 2000) (hp : p ≤ l.length) (hR : SBox w b l ⟨p, bad⟩)
  (hr : ∀ (x : Str) (w' : World), x.length ≤ 2000 → w.grownBy w' (some b) → Calls Tryz.prog F (#[.string ⟨x.toArray⟩] ++ cap) w' fun e w'' => e = .returned (.bool (right x)) ∧ Below w'.heap.size w' w'') :
  Calls Tryz.prog 138 #[.pointer (some ⟨b, 0, none⟩), .func (.func F) #[] cap] w fun e w' => e = .returned (.string ⟨(must l right ⟨p, bad⟩).1.toArray⟩) ∧ w.grownBy w' (some b) ∧ SBox w' b l (must l right ⟨p, bad⟩).2 := by
 have hs := sk_le hp
 have hss := sk_sk l p
 have hcall := peek_any l b p bad w hl hp hR
 cases bad with
 | some q0 =>
  rw [must_bad]
  generalize sk l p = q at hs hss hcall ⊢
  generalize pk l q = PK at hcall
  go_enter Tryz.func138, Tryz.ntmps138
  go_wp2_with fail
  refine hcall.mono ?_; clear hcall
  rintro e w1 ⟨rfl, hg1, hB1⟩
  obtain ⟨c0, c1, c2, c3, c4, fr, lt⟩ := id hB1
  simp only [codeOf, placeOf] at c3 c4
  go_wp2_with fail
  go_ret
  exact ⟨rfl, hg1, hB1⟩
 | none =>
  unfold must
  simp only
  have hpl : (pk l (sk l p)).length ≤ l.length ∧ sk l p + (pk l (sk l p)).length ≤ l.length := by
   rcases pk_case l (sk l p) with ⟨_, _, h3⟩ | ⟨x, _, _, _, _, h5⟩ | ⟨x, h1, _, _, h4⟩
   ·rw [h3]; simp; omega
   ·rw [h5]; have := wd_le hs.2; omega
   ·rw [h4]; have := at_lt h1; simp; omega
  generalize sk l p = q at hs hss hcall hpl ⊢
  generalize pk l q = PK at hcall hpl ⊢
  by_cases hPK : PK = []
  ·subst hPK
   rw [if_pos (Or.inl rfl)]
   go_enter Tryz.func138, Tryz.ntmps138
   go_wp2_with fail
   refine hcall.mono ?_; clear hcall
   rintro e w1 ⟨rfl, hg1, hB1⟩
   obtain ⟨c0, c1, c2, c3, c4, fr, lt⟩ := id hB1
   simp only [codeOf, placeOf] at c3 c4
   go_wp2_with fail
   refine (Fail_none l b q w1 hl hs.2 hB1).mono ?_
   rintro e w2 ⟨rfl, hg2, hB2⟩
   rw [hss] at hB2
   clear c0 c1 c2 c3 c4 fr lt
   go_wp2_with fail
   go_ret
   exact ⟨rfl, grown_trans hg1 hg2, hB2⟩
  ·cases hrt : right PK with
   | false =>
    rw [if_pos (Or.inr rfl)]
    have HRT := Lib.hid hrt; clear hrt
    have hPe : (PK == []) = false := by simpa using hPK
    go_enter Tryz.func138, Tryz.ntmps138
    go_wp2_with fail
    refine hcall.mono ?_; clear hcall
    rintro e w1 ⟨rfl, hg1, hB1⟩
    obtain ⟨c0, c1, c2, c3, c4, fr, lt⟩ := id hB1
    simp only [codeOf, placeOf] at c3 c4
    go_wp2_with fail
    refine (hr PK w1 (by omega) hg1).mono ?_; rw [HRT.out]; rintro e w2 ⟨rfl, hb2⟩
    have hB2 := hB1.keep hb2
    have hg2 := grown_belowB hg1 hb2
    clear c0 c1 c2 c3 c4 fr lt
    go_wp2_with fail
    refine (Fail_none l b q w2 hl hs.2 hB2).mono ?_
    rintro e w3 ⟨rfl, hg3, hB3⟩
    rw [hss] at hB3
    go_wp2_with fail
    go_ret
    exact ⟨rfl, grown_trans hg2 hg3, hB3⟩
   | true =>
    rw [if_neg (by simp [hPK])]
    have HRT := Lib.hid hrt; clear hrt
    have hPe : (PK == []) = false := by simpa using hPK
    go_enter Tryz.func138, Tryz.ntmps138
    go_wp2_with fail
    refine hcall.mono ?_; clear hcall
    rintro e w1 ⟨rfl, hg1, hB1⟩
    obtain ⟨c0, c1, c2, c3, c4, fr, lt⟩ := id hB1
    simp only [codeOf, placeOf] at c3 c4
    go_wp2_with fail
    refine (hr PK w1 (by omega) hg1).mono ?_; rw [HRT.out]; rintro e w2 ⟨rfl, hb2⟩
    have hB2 := hB1.keep hb2
    have hg2 := grown_belowB hg1 hb2
    clear c0 c1 c2 c3 c4 fr lt
    obtain ⟨c0, c1, c2, c3, c4, fr, lt⟩ := id hB2
    go_wp2_with fail
    go_ret
    have e1 : ((q + PK.length : Nat) : Int) = (q : Int) + (PK.length : Int) := by omega
    refine ⟨rfl, grown_trans hg2 (grown_at _ _ _ _), ?_⟩
    rw [← e1]
    exact hB2.set (q + PK.length)
set_option maxRecDepth 100000
theorem is3_any (x : Str) (w : World) : Calls Tryz.prog 145 #[.string ⟨x.toArray⟩] w fun e w' => e = .returned (.bool (isW [125] x || isW [44] x)) ∧ Below w.heap.size w w' := by
 by_cases h1 : x = [125]
 ·subst h1
  go_enter Tryz.func145, Tryz.ntmps145
  go_wp2_with fail
  go_ret
  exact ⟨rfl, Below.refl _ _⟩
 ·by_cases h2 : x = [44]
  ·subst h2
   go_enter Tryz.func145, Tryz.ntmps145
   go_wp2_with fail
   go_ret
   exact ⟨rfl, Below.refl _ _⟩
  ·have e1 : (x == [125]) = false := by simpa using h1
   have e2 : (x == [44]) = false := by simpa using h2
   go_enter Tryz.func145, Tryz.ntmps145
   go_wp2_with fail
   go_ret
   exact ⟨ret_bool (by simp [isW, h1, h2]), Below.refl _ _⟩

set_option maxHeartbeats 1000000 in
theorem is1_start (x : Str) (w : World) (hx : x.length ≤ 2000) : Calls Tryz.prog 139 #[.string ⟨x.toArray⟩] w fun e w' => e = .returned (.bool (startOk x)) ∧ Below w.heap.size w w' := by
 obtain ⟨ANS, hA⟩ : ∃ y, startOk x = y := ⟨_, rfl⟩
 have HA := Lib.hid hA; rw [hA]; clear hA
 have hcall := fun w => refIsVar_any x w (by omega)
 by_cases h1 : x = endW
 ·have e1 : (x == [101, 110, 100]) = true := by simpa [endW] using h1
  go_enter Tryz.func139, Tryz.ntmps139
  go_wp2_with fail
  go_ret
  exact ⟨ret_bool (by rw [← HA.out]; simp [startOk, isW, h1]), Below.refl _ _⟩
 ·have e1 : (x == [101, 110, 100]) = false := by simpa [endW] using h1
  by_cases h2 : x = recW
  ·have e2 : (x == [114, 101, 99]) = true := by simpa [recW] using h2
   go_enter Tryz.func139, Tryz.ntmps139
   go_wp2_with fail
   go_ret
   exact ⟨ret_bool (by rw [← HA.out]; simp [startOk, isW, h2]), Below.refl _ _⟩
  ·have e2 : (x == [114, 101, 99]) = false := by simpa [recW] using h2
   cases hv : isVar x with
   | true =>
    have HV := Lib.hid hv; clear hv
    go_enter Tryz.func139, Tryz.ntmps139
    go_wp2_with fail
    refine (hcall w).mono ?_; rw [HV.out]; rintro e w1 ⟨rfl, hb1⟩
    go_wp2_with fail
    go_ret
    exact ⟨ret_bool (by rw [← HA.out]; simp [startOk, HV.out]), hb1⟩
   | false =>
    have HV := Lib.hid hv; clear hv
    by_cases h3 : x = [33] ∨ x = [63] ∨ x = [43] ∨ x = [38]
    ·rcases h3 with rfl | rfl | rfl | rfl
     all_goals
      go_enter Tryz.func139, Tryz.ntmps139
      go_wp2_with fail
      refine (hcall w).mono ?_; rw [HV.out]; rintro e w1 ⟨rfl, hb1⟩
      go_wp2_with fail
      go_ret
      exact ⟨ret_bool (by rw [← HA.out]; rfl), hb1⟩
    ·simp only [not_or] at h3
     obtain ⟨k3, k4, k5, k6⟩ := h3
     have e3 : (x == [33]) = false := by simpa using k3
     have e4 : (x == [63]) = false := by simpa using k4
     have e5 : (x == [43]) = false := by simpa using k5
     have e6 : (x == [38]) = false := by simpa using k6
     go_enter Tryz.func139, Tryz.ntmps139
     go_wp2_with fail
     refine (hcall w).mono ?_; rw [HV.out]; rintro e w1 ⟨rfl, hb1⟩
     go_wp2_with fail
     go_ret
     exact ⟨ret_bool (by rw [← HA.out]; simp [startOk, isW, h1, h2, HV.out, k3, k4, k5, k6]), hb1⟩

def sortWd (s : Nat) : Str := if s = 1 then [105, 110, 116] else if s = 2 then [98, 111, 111, 108] else [116, 101, 120, 116]
theorem sortWd_any (s : Nat) (h1 : 1 ≤ s) (h3 : s ≤ 3) (w : World) :
  Calls Tryz.prog 45 #[.int .i64 s] w fun e w' => e = .returned (.string ⟨(sortWd s).toArray⟩) ∧ Below w.heap.size w w' := by
 obtain rfl | rfl | rfl : s = 1 ∨ s = 2 ∨ s = 3 := by omega
 all_goals
  go_enter Tryz.func45, Tryz.ntmps45
  go_wp2_with fail
  go_ret
  exact ⟨rfl, by go_grown⟩
theorem sortIx_wd (x : Str) (s : Nat) (h1 : 1 ≤ s) (h3 : s ≤ 3) (h : x = sortWd s) : sortIx x = s := by
 obtain rfl | rfl | rfl : s = 1 ∨ s = 2 ∨ s = 3 := by omega
 all_goals subst h; decide
theorem sortIx_no (x : Str) (h : ∀ s, 1 ≤ s → s ≤ 3 → x ≠ sortWd s) : sortIx x = 0 := by
 unfold sortIx
 rw [if_neg (show x ≠ [105, 110, 116] from h 1 (by omega) (by omega)), if_neg (show x ≠ [98, 111, 111, 108] from h 2 (by omega) (by omega)), if_neg (show x ≠ [116, 101, 120, 116] from h 3 (by omega) (by omega))]
set_option maxHeartbeats 1000000 in
theorem sortOf_any (x : Str) (w : World) : Calls Tryz.prog 142 #[.string ⟨x.toArray⟩] w fun e w' => e = .returned (.int .i64 (sortIx x)) ∧ Below w.heap.size w w' := by
 obtain ⟨ANS, hA⟩ : ∃ y, sortIx x = y := ⟨_, rfl⟩
 have HA := Lib.hid hA; rw [hA]; clear hA
 go_enter Tryz.func142, Tryz.ntmps142
 go_wp2_with fail
 go_loopw [3] (fun i wr => ∃ k : Nat, 1 ≤ k ∧ k ≤ 4 ∧ i = .int .i64 k ∧ Hid (∀ s, 1 ≤ s → s < k → x ≠ sortWd s) ∧ Below w.heap.size w wr) (fun i _ => 4 - (intOf i).toNat)
 case atStart => exact ⟨1, by omega, by omega, rfl, Lib.hid (fun s h1 h2 => by omega), Below.refl _ _⟩
 case round =>
  obtain ⟨k, hk1, hk4, rfl, hno, hb⟩ := hrel
  by_cases hlt : k < 4
  ·have hlt' : (k : Int) < 4 := by omega
   have hcall := sortWd_any k hk1 (by omega)
   by_cases hx : x = sortWd k
   ·have HX := Lib.hid hx
    obtain ⟨W, hW⟩ : ∃ y, sortWd k = y := ⟨_, rfl⟩
    rw [hW] at hcall hx
    have he : (W == x) = true := by simp [hx]
    clear hW hx
    go_wp2_with fail
    refine (hcall wr).mono ?_; clear hcall
    rintro e w1 ⟨rfl, hb1⟩
    go_wp2_with fail
    go_ret
    exact ⟨by rw [← HA.out, sortIx_wd x k hk1 (by omega) HX.out]; rfl, chain hb hb1⟩
   ·have HX := Lib.hid hx
    obtain ⟨W, hW⟩ : ∃ y, sortWd k = y := ⟨_, rfl⟩
    rw [hW] at hcall hx
    have he : (W == x) = false := by simpa using fun e : W = x => hx e.symm
    clear hW hx
    go_wp2_with fail
    refine (hcall wr).mono ?_; clear hcall
    rintro e w1 ⟨rfl, hb1⟩
    go_wp2_with fail
    go_roundw
    case rel =>
     refine ⟨k + 1, by omega, by omega, by simp, Lib.hid (fun s h1 h2 => ?_), chain hb hb1⟩
     by_cases hs : s = k
     ·rw [hs]; exact HX.out
     ·exact hno.out s h1 (by omega)
    case measure => simp [intOf]; omega
  ·have hk : k = 4 := by omega
   subst hk
   clear hlt
   go_wp2_with fail
   go_ret
   exact ⟨by rw [← HA.out, sortIx_no x (fun s h1 h3 => hno.out s h1 (by omega))]; rfl, hb⟩
theorem is2_any (x : Str) (w : World) : Calls Tryz.prog 143 #[.string ⟨x.toArray⟩] w fun e w' => e = .returned (.bool (decide (0 < sortIx x))) ∧ Below w.heap.size w w' := by
 have hcall := fun w => sortOf_any x w
 go_enter Tryz.func143, Tryz.ntmps143
 go_wp2_with fail
 refine (hcall w).mono ?_; clear hcall
 rintro e w1 ⟨rfl, hb1⟩
 go_wp2_with fail
 go_ret
 exact ⟨ret_bool (by simp), hb1⟩

set_option maxHeartbeats 1000000 in
theorem label1_any (x : Str) (ls : List Str) (lv : Value) (a : Nat) (w : World) (hx : x.length ≤ 2000) (hv : IsStrs w lv ls) (hn : ls.length ≤ 7) (hc : w.cell? ⟨a, 0, none⟩ = some lv) :
  Calls Tryz.prog 171 #[.string ⟨x.toArray⟩, .pointer (some ⟨a, 0, none⟩)] w fun e w' => e = .returned (.bool (labelOk ls x)) ∧ Below w.heap.size w w' := by
 obtain ⟨A, cap, rfl, hcap, hr⟩ := hv
 obtain ⟨ANS, hA⟩ : ∃ y, labelOk ls x = y := ⟨_, rfl⟩
 have HA := Lib.hid hA; rw [hA]; clear hA
 have hcall := fun w => refIsName_any x w (by omega)
 cases hi : isName x with
 | false =>
  have HI := Lib.hid hi; clear hi
  go_enter Tryz.func171, Tryz.ntmps171
  go_wp2_with fail
  refine (hcall w).mono ?_; rw [HI.out]; rintro e w1 ⟨rfl, hb1⟩
  go_wp2_with fail
  go_ret
  exact ⟨ret_bool (by rw [← HA.out]; simp [labelOk, HI.out]), hb1⟩
 | true =>
  have HI := Lib.hid hi; clear hi
  by_cases h6 : ls.length < 6
  ·have h6' : (ls.length : Int) < 6 := by omega
   by_cases h0 : ls.length = 0
   ·have hl : ls = [] := List.eq_nil_of_length_eq_zero h0
    subst hl
    go_enter Tryz.func171, Tryz.ntmps171
    go_wp2_with fail
    refine (hcall w).mono ?_; rw [HI.out]; rintro e w1 ⟨rfl, hb1⟩
    have hc1 := cell_keep hc hb1
    go_wp2_with fail
    go_ret
    exact ⟨ret_bool (by rw [← HA.out]; simp [labelOk, HI.out, behind]), hb1⟩
   ·obtain ⟨b, off, rfl, hrow⟩ := hr (by omega)
    obtain ⟨q, hq⟩ : ∃ q, ls[ls.length - 1]? = some q := ⟨_, List.getElem?_eq_getElem (by omega)⟩
    have hcell := hrow _ _ hq
    have hlast : ls.getLast? = some q := by rw [List.getLast?_eq_getElem?]; exact hq
    have HLT := Lib.hid hlast
    have g0 : ((ls.length : Int) == 0) = false := by rw [beq_eq_false_iff_ne]; omega
    have e1 : ((ls.length : Int) - 1) = ((ls.length - 1 : Nat) : Int) := by omega
    have HE1 := Lib.hid e1
    have g1 : 0 ≤ (ls.length : Int) - 1 ∧ (ls.length : Int) - 1 < (ls.length : Int) := by omega
    clear hrow hq hlast e1 hr
    go_enter Tryz.func171, Tryz.ntmps171
    go_wp2_with fail
    refine (hcall w).mono ?_; rw [HI.out]; rintro e w1 ⟨rfl, hb1⟩
    have hc1 := cell_keep hc hb1
    have hc2 := cell_keep hcell hb1
    go_wp2_with fail
    go_ret
    exact ⟨ret_bool (by rw [← HA.out]; simp [labelOk, HI.out, HLT.out, h6, behind_some]), hb1⟩
  ·have h6' : decide ((ls.length : Int) < 6) = false := by simp; omega
   go_enter Tryz.func171, Tryz.ntmps171
   go_wp2_with fail
   refine (hcall w).mono ?_; rw [HI.out]; rintro e w1 ⟨rfl, hb1⟩
   have hc1 := cell_keep hc hb1
   go_wp2_with fail
   go_ret
   exact ⟨ret_bool (by rw [← HA.out]; simp [labelOk, HI.out]; omega), hb1⟩
set_option maxHeartbeats 1000000 in
theorem label_any (ls : List Str) (lv : Value) (l : Str) (b p : Nat) (bad : Option Nat) (w : World) (hl : l.length ≤ 2000) (hp : p ≤ l.length) (hR : SBox w b l ⟨p, bad⟩) (hv : StrsD (· ≠ b) w lv ls) (hn : ls.length ≤ 7) :
  Calls Tryz.prog 144 #[.pointer (some ⟨b, 0, none⟩), lv] w fun e w' => e = .returned (.string ⟨(must l (labelOk ls) ⟨p, bad⟩).1.toArray⟩) ∧ w.grownBy w' (some b) ∧ SBox w' b l (must l (labelOk ls) ⟨p, bad⟩).2 := by
 have hmf : ∀ (fn : Fn) (first cap : Array Value) (w : World), (Instr.makeFunc fn first cap).run Tryz.prog w = .ok (.func fn first cap) w := fun _ _ _ _ => rfl
 have HV := Lib.hid hv
 obtain ⟨A, cap, rfl, -, -⟩ := hv
 go_enter Tryz.func144, Tryz.ntmps144
 go_wp2_with fail
 have hbW : Below w.heap.size w (w.alloc (.cells #[.slice A ls.length cap] 27)) := by go_grown
 have hc0 : (w.alloc (.cells #[.slice A ls.length cap] 27)).cell? ⟨w.heap.size, 0, none⟩ = some (.slice A ls.length cap) := by simp [go_sem]
 have hR0 := hR.keep hbW
 have hg0 := grown_belowB (grown_refl w b) hbW
 have hV0 := HV.out.keep (D' := (· ≠ b)) (Same.below hbW) (fun _ h _ => h)
 have hlt := hR.lt
 have hsz : (w.alloc (.cells #[.slice A ls.length cap] 27)).heap.size = w.heap.size + 1 := by simp
 generalize w.alloc (.cells #[.slice A ls.length cap] 27) = w0 at hc0 hR0 hg0 hV0 hsz ⊢
 refine (must_any (labelOk ls) 171 #[.pointer (some ⟨w.heap.size, 0, none⟩)] (fun _ _ => by kernel_rfl) l b p bad w0 hl hp hR0 fun x w' hx hg' => ?_).mono ?_
 ·have hs' : Same (· ≠ b) w0 w' := Same.grown hg' (fun k hk e => hk (by injection e))
  exact label1_any x ls _ w.heap.size w' hx (hV0.keep (D' := (· ≠ b)) hs' (fun _ h _ => h)).is hn (hs'.cell (by show w.heap.size ≠ b; omega) hc0)
 ·rintro e w1 ⟨rfl, hg1, hR1⟩
  go_wp2_with fail
  go_ret
  exact ⟨rfl, grown_trans hg0 hg1, hR1⟩
set_option maxRecDepth 100000
theorem must_is (c : Str) (N : Nat) (l : Str) (b p : Nat) (bad : Option Nat) (w : World) (hl : l.length ≤ 2000) (hp : p ≤ l.length) (hR : SBox w b l ⟨p, bad⟩) (hN : N ≠ b) (hc : w.cell? ⟨N, 0, none⟩ = some (.string ⟨c.toArray⟩)) :
  Calls Tryz.prog 138 #[.pointer (some ⟨b, 0, none⟩), isFn ⟨N, 0, none⟩] w fun e w' => e = .returned (.string ⟨(must l (isW c) ⟨p, bad⟩).1.toArray⟩) ∧ w.grownBy w' (some b) ∧ SBox w' b l (must l (isW c) ⟨p, bad⟩).2 :=
 must_any (isW c) 170 #[.pointer (some ⟨N, 0, none⟩)] (fun _ _ => by kernel_rfl) l b p bad w hl hp hR fun x w' _ hg =>
  (Is1_any c x N w' ((Same.grown (D := (· ≠ b)) hg (fun k hk e => hk (by injection e))).cell hN hc)).mono fun _ _ ⟨h1, h2⟩ => ⟨h1, h2 ▸ Below.refl _ _⟩
theorem is_cell (c : Str) (w : World) (E : TypeId) : (w.alloc (.cells #[.string ⟨c.toArray⟩] E)).cell? ⟨w.heap.size, 0, none⟩ = some (.string ⟨c.toArray⟩) := by simp [go_sem]
theorem must_ok {l : Str} {right : Str → Bool} {s : St} (h : (must l right s).2.bad = none) : right (must l right s).1 = true := by
 obtain ⟨p, bad⟩ := s
 cases bad with
 | some b => cases h
 | none =>
  unfold must at h ⊢
  simp only at h ⊢
  split at h
  ·cases h
  ·rename_i hn
   simp only [not_or] at hn
   rw [if_neg (by simp only [not_or]; exact hn)]
   simpa using hn.2
theorem SBox.keepB {w w' : World} {b B : Nat} {l : Str} {s : St} (h : SBox w b l s) (hb : Below B w w') (hB : b < B) : SBox w' b l s :=
 ⟨(hb.cell (p := ⟨b, 0, none⟩) hB).trans h.c0, (hb.cell (p := ⟨b, 1, none⟩) hB).trans h.c1, (hb.cell (p := ⟨b, 2, none⟩) hB).trans h.c2, (hb.cell (p := ⟨b, 3, none⟩) hB).trans h.c3, (hb.cell (p := ⟨b, 4, none⟩) hB).trans h.c4, fun j => (hb.frozen (p := ⟨b, j, none⟩) hB).trans (h.fr j), Nat.lt_of_lt_of_le h.lt hb.size⟩

end Go.Proofs.YtpidjanngbaiiaaGreatDoor
