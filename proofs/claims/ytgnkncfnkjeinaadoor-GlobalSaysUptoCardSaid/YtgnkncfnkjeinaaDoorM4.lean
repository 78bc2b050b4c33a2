/-
  Data that come in, opened: structs of one-cell fields, slices of texts.
  Types that come in, opened: whatever reads as an api.Type is a tree that lies in memory, and its texts and rows are no longer than a length can be.
  The shape of a type's part: types.shaped and the reference's part answer 'shapeOk'.
  The reference's part, kind by kind.
-/
import Derived.Test.YtgnkncfnkjeinaaDoorM2
import Derived.Test.YtgnkncfnkjeinaaDoorM3
import Derived.ChangeArms
import Derived.DataReads
import Derived.Deep.Slices
import Derived.Deep.Strs
import Derived.Deep.Fields
namespace Go.Proofs.YtgnkncfnkjeinaaDoor
open Go.ChangeShapes Go.WideShapes Go.ChangeAt Go.RowKit Go.Joins Go.Lib Go.Deep

set_option maxRecDepth 100000
theorem cellsStr : Tryd.prog.cellsOf 9 = 1 := by kernel_rfl
theorem cellsInt : Tryd.prog.cellsOf 3 = 1 := by kernel_rfl
theorem cellsStrs : Tryd.prog.cellsOf 22 = 1 := by kernel_rfl
section
variable {H : Type} {enc : TypeId × Value → H} {P : Program} {w : World} {base : Nat} {spare : Nat → Bool} {held : Bool}
/-- A struct of fields of one cell each: every cell reads, with less fuel. -/
theorem trod_fields {t : TypeId} {fs : Array Field} {fuel : Nat} {cs : List Value} {x : DataW H × List MemPlace} (ht : P.underlying t = some (.struct fs)) (hone : oneCellFields P fs = true) (hC : P.cellsOf t = fs.size) (h : DataW.trod enc P w base spare held fuel t cs = some x) :
    ∃ n, fuel = n + 1 ∧ cs.length = fs.size ∧ ∀ (i : Nat) (f : Field), fs[i]? = some f → ∃ c y, cs[i]? = some c ∧ DataW.trod enc P w base spare held n f.type [c] = some y := by
  obtain ⟨xs, n, rfl, -, hl, hlen, hf⟩ := DataW.trod_struct ht h
  refine ⟨n, rfl, by rw [hl, hC], fun i f hi => ?_⟩
  obtain ⟨k1, k2⟩ := hone_of hone i f hi
  have hi' : i < fs.size := (Array.getElem?_eq_some_iff.1 hi).1
  have := hf i f hi
  rw [k1, k2, take1_drop cs i (.bool false) (by omega), List.getElem?_eq_getElem (by omega)] at this
  exact ⟨_, _, by rw [List.getElem?_eq_getElem (by omega)], by rw [← this, List.getD, List.getElem?_eq_getElem (by omega)]; rfl⟩
end
section
variable {H : Type} {enc : TypeId × Value → H} {W : World}
theorem open_texts {fuel : Nat} {cs : List Value} {x : DataW H × List MemPlace} (h : DataW.trod enc Tryd.prog W 0 (fun _ => true) true fuel 22 cs = some x) :
    ∃ (v : Value) (l : List Str), cs = [v] ∧ IsStrs W v l ∧ l.length ≤ maxLen ∧ ∀ s ∈ l, s.length ≤ maxLen := by
  rcases open_strs Tryd.underlying22 Tryd.underlying9 cellsStr h with ⟨rfl, -⟩ | ⟨a, len, cap, m, Sx, rfl, -, hl, hm, hmm, -, hx⟩
  · exact ⟨_, [], rfl, ⟨none, 0, rfl, Nat.le_refl _, fun h => by simp at h⟩, by simp, by simp⟩
  · have hmc : m = cap := by simpa using hmm
    refine ⟨_, (List.range len).map fun i => (Sx i).data.toList, rfl, ⟨some a, cap, by simp, by simpa using hl, fun h0 => ?_⟩, by simp; omega, ?_⟩
    · simp only [List.length_map, List.length_range] at h0
      obtain ⟨b, off, spot⟩ := a
      have hspot : spot = none := by simpa [Addr.add] using World.cell?_spot (hx 0 (by omega)).1
      subst hspot
      refine ⟨b, off, rfl, fun i s hi => ?_⟩
      simp only [List.getElem?_map, Option.map_eq_some_iff] at hi
      obtain ⟨j, hj, rfl⟩ := hi
      obtain ⟨hj1, hj2⟩ := List.getElem?_eq_some_iff.1 hj
      simp only [List.length_range, List.getElem_range] at hj1 hj2
      subst hj2
      have := (hx i (by omega)).1
      rw [Go.WideShapes.add_plain] at this
      rw [this, mk_data]
    · intro s hs
      obtain ⟨i, hi, rfl⟩ := List.mem_map.1 hs
      have hi' := List.mem_range.1 hi
      have := (hx i (by omega)).2
      rw [size_eq] at this
      exact this
end
end Go.Proofs.YtgnkncfnkjeinaaDoor
namespace Go.Proofs.YtgnkncfnkjeinaaDoor
open Go.ChangeShapes Go.WideShapes Go.ChangeAt Go.RowKit Go.Joins Go.Lib Go.Deep

/-- Lengths fit. -/
inductive Fit : Ty → Prop where
  | mk (k s : Int) (n : Str) (ls : List Str) (ks : List Ty) (hk : (Lit.int .i64 k).wf = true) (hs : (Lit.int .i64 s).wf = true) (hn : n.length ≤ maxLen) (hl : ls.length ≤ maxLen) (hls : ∀ l ∈ ls, l.length ≤ maxLen) (hc : ks.length ≤ maxLen) (hks : ∀ t ∈ ks, Fit t) : Fit (.mk k s n ls ks)

theorem Fit.parts {t : Ty} (h : Fit t) : t.name.length ≤ maxLen ∧ t.labels.length ≤ maxLen ∧ (∀ l ∈ t.labels, l.length ≤ maxLen) ∧ t.kids.length ≤ maxLen ∧ ∀ k ∈ t.kids, Fit k := by
  cases h with
  | mk k s n ls ks hk hs hn hl hls hc hks => exact ⟨hn, hl, hls, hc, hks⟩

set_option maxRecDepth 100000
theorem cellsTy : Tryd.prog.cellsOf 25 = 5 := by kernel_rfl
set_option maxRecDepth 100000
theorem cellsTys : Tryd.prog.cellsOf 23 = 1 := by kernel_rfl

section
variable {H : Type} {enc : TypeId × Value → H} {P : Program} {w : World} {base : Nat} {spare : Nat → Bool} {held : Bool}
end

section
variable {H : Type} {enc : TypeId × Value → H} {W : World}

theorem open_type_cells : ∀ (fuel : Nat) (cs : List Value) (x : DataW H × List MemPlace), DataW.trod enc Tryd.prog W 0 (fun _ => true) true fuel 25 cs = some x →
    ∃ (t : Ty) (lv kv : Value), cs = [.int .i64 t.kind, .int .i64 t.sort, .string ⟨t.name.toArray⟩, lv, kv] ∧ IsStrs W lv t.labels ∧ IsTys W kv t.kids ∧ Fit t := by
  intro fuel
  induction fuel using Nat.strongRecOn with
  | _ fuel ih =>
  intro cs x h
  obtain ⟨n, rfl, hl, hf⟩ := trod_fields Tryd.underlying25 (by kernel_rfl) cellsTy h
  obtain ⟨c0, c1, c2, c3, c4, rfl⟩ : ∃ c0 c1 c2 c3 c4, cs = [c0, c1, c2, c3, c4] := by
    match cs, hl with
    | [c0, c1, c2, c3, c4], _ => exact ⟨c0, c1, c2, c3, c4, rfl⟩
  obtain ⟨_, x0, e, h0⟩ := hf 0 _ rfl
  obtain rfl := Option.some.inj e
  obtain ⟨_, x1, e, h1⟩ := hf 1 _ rfl
  obtain rfl := Option.some.inj e
  obtain ⟨_, x2, e, h2⟩ := hf 2 _ rfl
  obtain rfl := Option.some.inj e
  obtain ⟨_, x3, e, h3⟩ := hf 3 _ rfl
  obtain rfl := Option.some.inj e
  obtain ⟨_, x4, e, h4⟩ := hf 4 _ rfl
  obtain rfl := Option.some.inj e
  obtain ⟨k, e0, -, hk⟩ := DataW.trod_int Tryd.underlying3 h0
  obtain ⟨s, e1, -, hs⟩ := DataW.trod_int Tryd.underlying3 h1
  obtain ⟨nm, e2, -, hn⟩ := DataW.trod_string Tryd.underlying9 h2
  obtain ⟨lv, ls, e3, h3, hl3, hl3'⟩ := open_texts h3
  simp only [List.cons.injEq, and_true] at e0 e1 e2 e3
  subst e0 e1 e2 e3
  have hks : ∃ ks : List Ty, IsTys W c4 ks ∧ ks.length ≤ maxLen ∧ ∀ t ∈ ks, Fit t := by
    rcases DataW.trod_slice Tryd.underlying23 h4 with ⟨e, -⟩ | ⟨a, len, cap, elems, rest, m, rfl, e, -, -, hl, hm, hlen, hel, -, -⟩
    · simp only [List.cons.injEq, and_true] at e
      subst e
      exact ⟨[], ⟨none, 0, rfl, Nat.le_refl _, fun h => by simp at h⟩, by simp, by simp⟩
    · simp only [List.cons.injEq, and_true] at e
      subst e
      rw [cellsTy] at hel
      have each : ∀ i, i < len → ∃ (t : Ty), (∃ lv kv, (∀ j, j < 5 → W.cell? ((a.add (i * 5)).add j) = ([.int .i64 t.kind, .int .i64 t.sort, .string ⟨t.name.toArray⟩, lv, kv] : List Value)[j]?) ∧ IsStrs W lv t.labels ∧ IsTys W kv t.kids) ∧ Fit t := by
        intro i hi
        have he := hel i hi
        rw [List.getElem?_eq_getElem (by omega)] at he
        obtain ⟨cs', hc1, hc2⟩ := Option.bind_eq_some_iff.1 he
        obtain ⟨t, lv, kv, rfl, h5, h6, h7⟩ := ih m (by omega) cs' _ hc2
        exact ⟨t, ⟨lv, kv, (World.cells?_some hc1).2.2, h5, h6⟩, h7⟩
      haveI : Inhabited Ty := ⟨.mk 0 0 [] [] []⟩
      obtain ⟨T, hT⟩ := choose_lt each
      refine ⟨(List.range len).map T, ⟨some a, cap, by simp, by rw [List.length_map, List.length_range]; omega, fun h0 => ?_⟩, by simp; omega, ?_⟩
      · simp only [List.length_map, List.length_range] at h0
        obtain ⟨b, off, spot⟩ := a
        have hspot : spot = none := by
          obtain ⟨⟨_, _, hc, _⟩, _⟩ := hT 0 h0
          have := hc 0 (by omega)
          simp only [Nat.zero_mul] at this
          simpa [Addr.add] using World.cell?_spot this
        subst hspot
        refine ⟨b, off, rfl, TyRow_of fun i t hi => ?_⟩
        simp only [List.getElem?_map, Option.map_eq_some_iff] at hi
        obtain ⟨j, hj, rfl⟩ := hi
        obtain ⟨hj1, hj2⟩ := List.getElem?_eq_some_iff.1 hj
        simp only [List.length_range, List.getElem_range] at hj1 hj2
        subst hj2
        obtain ⟨⟨lv, kv, hc, h5, h6⟩, _⟩ := hT i hj1
        refine (TyAt_iff _ _ _ _).2 ⟨lv, kv, ?_, ?_, ?_, ?_, ?_, h5, h6⟩
        all_goals first
          | (have := hc 0 (by omega); rw [Go.WideShapes.add_plain, Go.WideShapes.add_plain] at this; exact this)
          | (have := hc 1 (by omega); rw [Go.WideShapes.add_plain, Go.WideShapes.add_plain] at this; exact this)
          | (have := hc 2 (by omega); rw [Go.WideShapes.add_plain, Go.WideShapes.add_plain] at this; exact this)
          | (have := hc 3 (by omega); rw [Go.WideShapes.add_plain, Go.WideShapes.add_plain] at this; exact this)
          | (have := hc 4 (by omega); rw [Go.WideShapes.add_plain, Go.WideShapes.add_plain] at this; exact this)
      · intro t ht
        obtain ⟨i, hi, rfl⟩ := List.mem_map.1 ht
        exact (hT i (List.mem_range.1 hi)).2
  obtain ⟨ks, hks1, hks2, hks3⟩ := hks
  refine ⟨.mk k s nm.data.toList ls ks, c3, c4, ?_, h3, hks1, ?_⟩
  · simp only [Ty.kind, Ty.sort, Ty.name, mk_data]
  · exact .mk _ _ _ _ _ hk hs (by rw [← size_eq]; exact hn) hl3 hl3' hks2 hks3

/-- A type that came in. -/
theorem open_type {r : Reach} {b0 : Nat} {v : Value} {d : DataW H} {p : List MemPlace} (hv : Value.okWide Tryd.prog W r b0 25 v) (h : DataW.Trod enc Tryd.prog W 0 (fun _ => true) true 25 v d p) :
    ∃ t : Ty, IsTy W v t ∧ Fit t := by
  obtain ⟨cs, rfl, hc⟩ := okWide_struct Tryd.underlying25 hv
  obtain ⟨fuel, h⟩ := h
  obtain ⟨t, lv, kv, e, h1, h2, h3⟩ := open_type_cells fuel _ _ h
  refine ⟨t, ⟨lv, kv, ?_, h1, h2⟩, h3⟩
  have : cs.toList = _ := e
  rw [← this]
end
end Go.Proofs.YtgnkncfnkjeinaaDoor
namespace Go.Proofs.YtgnkncfnkjeinaaDoor
open Go.RowKit Go.Proofs

set_option maxRecDepth 100000
/-- Has a part just what its kind has? -/
def shapeN (k s : Int) (n : Str) (nl : Nat) (lok : Bool) (kids : Nat) : Bool :=
  if k = 1 then decide (s = 0) && n.isEmpty && decide (nl = 0) && decide (kids = 0)
  else if k = 2 ∨ k = 3 then decide (1 ≤ s) && decide (s ≤ 3) && n.isEmpty && decide (nl = 0) && decide (kids = 1)
  else if k = 4 ∨ k = 5 then decide (s = 0) && n.isEmpty && decide (nl = 0) && decide (kids = 2)
  else if k = 6 ∨ k = 7 then decide (s = 0) && n.isEmpty && lok && decide (kids = nl)
  else if k = 8 then decide (s = 0) && isVar n && decide (nl = 0) && decide (kids = 1)
  else if k = 9 then decide (s = 0) && isVar n && decide (nl = 0) && decide (kids = 0)
  else false
def shapeOk (k s : Int) (n : Str) (ls : List Str) (kids : Nat) : Bool := shapeN k s n ls.length (labelsOk ls) kids
theorem sum_zero {a b : Nat} (ha : a ≤ 9223372036854775807) (hb : b ≤ 9223372036854775807) : (wrap64 ((a : Int) + b) == 0) = (decide (a = 0) && decide (b = 0)) := by
  rw [Bool.eq_iff_iff]
  simp only [beq_iff_eq, Bool.and_eq_true, decide_eq_true_eq, wrap64]
  omega

set_option maxHeartbeats 4000000 in
theorem shaped_1 (s : Int) (n : Str) (ls : List Str) (kids : Nat) (lv : Value) (A' : Option Addr) (cap' : Nat) (w : World) (hn : n.length ≤ 9223372036854775807) (hl : ls.length ≤ 9223372036854775807) (hs : ∀ s ∈ ls, s.length ≤ 9223372036854775807) (hk : kids ≤ 9223372036854775807) (hv : IsStrs w lv ls) :
    Calls Tryd.prog 77 #[.agg #[.int .i64 1, .int .i64 s, .string ⟨n.toArray⟩, lv, .slice A' kids cap']] w fun e w' => e = .returned (.bool (shapeOk 1 s n ls kids)) ∧ Below w.heap.size w w' := by
  have HV := Lib.hid hv
  obtain ⟨A, cap, rfl, -, -⟩ := hv
  obtain ⟨ANS, hA⟩ : ∃ x, shapeOk 1 s n ls kids = x := ⟨_, rfl⟩
  rw [hA]
  have HS := Lib.hid hs; clear hs
  obtain ⟨L, hL⟩ : ∃ L, ls.length = L := ⟨_, rfl⟩
  have HL := Lib.hid hL
  obtain ⟨B, hB⟩ : ∃ x, labelsOk ls = x := ⟨_, rfl⟩
  have HB := Lib.hid hB
  unfold shapeOk at hA
  rw [hL, hB] at hA
  have HA := Lib.hid hA
  rw [hL] at hl HV ⊢; clear hL hA hB
  go_enter Tryd.func77, Tryd.ntmps77
  go_wp2_with fail
  all_goals
    go_ret
    refine ⟨ret_bool' ?_, by go_grown⟩
    rw [← HA.out]
    first | (simp [shapeN, *]; done) | (simp [shapeN, *]; omega) | (rw [Bool.eq_iff_iff]; simp [shapeN, *]; done) | (rw [Bool.eq_iff_iff]; simp [shapeN, *]; omega) | (rw [sum_zero hl hk]; simp [shapeN, *]; done)
set_option maxHeartbeats 4000000 in
theorem shaped_2 (s : Int) (n : Str) (ls : List Str) (kids : Nat) (lv : Value) (A' : Option Addr) (cap' : Nat) (w : World) (hn : n.length ≤ 9223372036854775807) (hl : ls.length ≤ 9223372036854775807) (hs : ∀ s ∈ ls, s.length ≤ 9223372036854775807) (hk : kids ≤ 9223372036854775807) (hv : IsStrs w lv ls) :
    Calls Tryd.prog 77 #[.agg #[.int .i64 2, .int .i64 s, .string ⟨n.toArray⟩, lv, .slice A' kids cap']] w fun e w' => e = .returned (.bool (shapeOk 2 s n ls kids)) ∧ Below w.heap.size w w' := by
  have HV := Lib.hid hv
  obtain ⟨A, cap, rfl, -, -⟩ := hv
  obtain ⟨ANS, hA⟩ : ∃ x, shapeOk 2 s n ls kids = x := ⟨_, rfl⟩
  rw [hA]
  have HS := Lib.hid hs; clear hs
  obtain ⟨L, hL⟩ : ∃ L, ls.length = L := ⟨_, rfl⟩
  have HL := Lib.hid hL
  obtain ⟨B, hB⟩ : ∃ x, labelsOk ls = x := ⟨_, rfl⟩
  have HB := Lib.hid hB
  unfold shapeOk at hA
  rw [hL, hB] at hA
  have HA := Lib.hid hA
  rw [hL] at hl HV ⊢; clear hL hA hB
  go_enter Tryd.func77, Tryd.ntmps77
  go_wp2_with fail
  all_goals
    go_ret
    refine ⟨ret_bool' ?_, by go_grown⟩
    rw [← HA.out]
    first | (simp [shapeN, *]; done) | (simp [shapeN, *]; omega) | (rw [Bool.eq_iff_iff]; simp [shapeN, *]; done) | (rw [Bool.eq_iff_iff]; simp [shapeN, *]; omega) | (rw [sum_zero hl hk]; simp [shapeN, *]; done)
set_option maxHeartbeats 4000000 in
theorem shaped_3 (s : Int) (n : Str) (ls : List Str) (kids : Nat) (lv : Value) (A' : Option Addr) (cap' : Nat) (w : World) (hn : n.length ≤ 9223372036854775807) (hl : ls.length ≤ 9223372036854775807) (hs : ∀ s ∈ ls, s.length ≤ 9223372036854775807) (hk : kids ≤ 9223372036854775807) (hv : IsStrs w lv ls) :
    Calls Tryd.prog 77 #[.agg #[.int .i64 3, .int .i64 s, .string ⟨n.toArray⟩, lv, .slice A' kids cap']] w fun e w' => e = .returned (.bool (shapeOk 3 s n ls kids)) ∧ Below w.heap.size w w' := by
  have HV := Lib.hid hv
  obtain ⟨A, cap, rfl, -, -⟩ := hv
  obtain ⟨ANS, hA⟩ : ∃ x, shapeOk 3 s n ls kids = x := ⟨_, rfl⟩
  rw [hA]
  have HS := Lib.hid hs; clear hs
  obtain ⟨L, hL⟩ : ∃ L, ls.length = L := ⟨_, rfl⟩
  have HL := Lib.hid hL
  obtain ⟨B, hB⟩ : ∃ x, labelsOk ls = x := ⟨_, rfl⟩
  have HB := Lib.hid hB
  unfold shapeOk at hA
  rw [hL, hB] at hA
  have HA := Lib.hid hA
  rw [hL] at hl HV ⊢; clear hL hA hB
  go_enter Tryd.func77, Tryd.ntmps77
  go_wp2_with fail
  all_goals
    go_ret
    refine ⟨ret_bool' ?_, by go_grown⟩
    rw [← HA.out]
    first | (simp [shapeN, *]; done) | (simp [shapeN, *]; omega) | (rw [Bool.eq_iff_iff]; simp [shapeN, *]; done) | (rw [Bool.eq_iff_iff]; simp [shapeN, *]; omega) | (rw [sum_zero hl hk]; simp [shapeN, *]; done)
set_option maxHeartbeats 4000000 in
theorem shaped_4 (s : Int) (n : Str) (ls : List Str) (kids : Nat) (lv : Value) (A' : Option Addr) (cap' : Nat) (w : World) (hn : n.length ≤ 9223372036854775807) (hl : ls.length ≤ 9223372036854775807) (hs : ∀ s ∈ ls, s.length ≤ 9223372036854775807) (hk : kids ≤ 9223372036854775807) (hv : IsStrs w lv ls) :
    Calls Tryd.prog 77 #[.agg #[.int .i64 4, .int .i64 s, .string ⟨n.toArray⟩, lv, .slice A' kids cap']] w fun e w' => e = .returned (.bool (shapeOk 4 s n ls kids)) ∧ Below w.heap.size w w' := by
  have HV := Lib.hid hv
  obtain ⟨A, cap, rfl, -, -⟩ := hv
  obtain ⟨ANS, hA⟩ : ∃ x, shapeOk 4 s n ls kids = x := ⟨_, rfl⟩
  rw [hA]
  have HS := Lib.hid hs; clear hs
  obtain ⟨L, hL⟩ : ∃ L, ls.length = L := ⟨_, rfl⟩
  have HL := Lib.hid hL
  obtain ⟨B, hB⟩ : ∃ x, labelsOk ls = x := ⟨_, rfl⟩
  have HB := Lib.hid hB
  unfold shapeOk at hA
  rw [hL, hB] at hA
  have HA := Lib.hid hA
  rw [hL] at hl HV ⊢; clear hL hA hB
  go_enter Tryd.func77, Tryd.ntmps77
  go_wp2_with fail
  all_goals
    go_ret
    refine ⟨ret_bool' ?_, by go_grown⟩
    rw [← HA.out]
    first | (simp [shapeN, *]; done) | (simp [shapeN, *]; omega) | (rw [Bool.eq_iff_iff]; simp [shapeN, *]; done) | (rw [Bool.eq_iff_iff]; simp [shapeN, *]; omega) | (rw [sum_zero hl hk]; simp [shapeN, *]; done)
set_option maxHeartbeats 4000000 in
theorem shaped_5 (s : Int) (n : Str) (ls : List Str) (kids : Nat) (lv : Value) (A' : Option Addr) (cap' : Nat) (w : World) (hn : n.length ≤ 9223372036854775807) (hl : ls.length ≤ 9223372036854775807) (hs : ∀ s ∈ ls, s.length ≤ 9223372036854775807) (hk : kids ≤ 9223372036854775807) (hv : IsStrs w lv ls) :
    Calls Tryd.prog 77 #[.agg #[.int .i64 5, .int .i64 s, .string ⟨n.toArray⟩, lv, .slice A' kids cap']] w fun e w' => e = .returned (.bool (shapeOk 5 s n ls kids)) ∧ Below w.heap.size w w' := by
  have HV := Lib.hid hv
  obtain ⟨A, cap, rfl, -, -⟩ := hv
  obtain ⟨ANS, hA⟩ : ∃ x, shapeOk 5 s n ls kids = x := ⟨_, rfl⟩
  rw [hA]
  have HS := Lib.hid hs; clear hs
  obtain ⟨L, hL⟩ : ∃ L, ls.length = L := ⟨_, rfl⟩
  have HL := Lib.hid hL
  obtain ⟨B, hB⟩ : ∃ x, labelsOk ls = x := ⟨_, rfl⟩
  have HB := Lib.hid hB
  unfold shapeOk at hA
  rw [hL, hB] at hA
  have HA := Lib.hid hA
  rw [hL] at hl HV ⊢; clear hL hA hB
  go_enter Tryd.func77, Tryd.ntmps77
  go_wp2_with fail
  all_goals
    go_ret
    refine ⟨ret_bool' ?_, by go_grown⟩
    rw [← HA.out]
    first | (simp [shapeN, *]; done) | (simp [shapeN, *]; omega) | (rw [Bool.eq_iff_iff]; simp [shapeN, *]; done) | (rw [Bool.eq_iff_iff]; simp [shapeN, *]; omega) | (rw [sum_zero hl hk]; simp [shapeN, *]; done)
set_option maxHeartbeats 4000000 in
theorem shaped_6 (s : Int) (n : Str) (ls : List Str) (kids : Nat) (lv : Value) (A' : Option Addr) (cap' : Nat) (w : World) (hn : n.length ≤ 9223372036854775807) (hl : ls.length ≤ 9223372036854775807) (hs : ∀ s ∈ ls, s.length ≤ 9223372036854775807) (hk : kids ≤ 9223372036854775807) (hv : IsStrs w lv ls) :
    Calls Tryd.prog 77 #[.agg #[.int .i64 6, .int .i64 s, .string ⟨n.toArray⟩, lv, .slice A' kids cap']] w fun e w' => e = .returned (.bool (shapeOk 6 s n ls kids)) ∧ Below w.heap.size w w' := by
  have HV := Lib.hid hv
  obtain ⟨A, cap, rfl, -, -⟩ := hv
  obtain ⟨ANS, hA⟩ : ∃ x, shapeOk 6 s n ls kids = x := ⟨_, rfl⟩
  rw [hA]
  have HS := Lib.hid hs; clear hs
  obtain ⟨L, hL⟩ : ∃ L, ls.length = L := ⟨_, rfl⟩
  have HL := Lib.hid hL
  obtain ⟨B, hB⟩ : ∃ x, labelsOk ls = x := ⟨_, rfl⟩
  have HB := Lib.hid hB
  unfold shapeOk at hA
  rw [hL, hB] at hA
  have HA := Lib.hid hA
  rw [hL] at hl HV ⊢; clear hL hA hB
  cases B
  all_goals
    go_enter Tryd.func77, Tryd.ntmps77
    go_wp2_with (go_at_call 107; go_must (refine (labels_any _ ls _ (HV.out.keep (by go_grown)) HS.out (by rw [HL.out]; exact hl)).mono ?_; rw [HB.out]; rintro e w1 ⟨rfl, hb1⟩; obtain ⟨hc1, hf1, hz1⟩ := bcell hb1))
    all_goals
      go_ret
      refine ⟨ret_bool' ?_, by first | (exact chain (by go_grown) hb1) | go_grown⟩
      rw [← HA.out]
      first | (simp [shapeN, *]; done) | (simp [shapeN, *]; omega) | (rw [Bool.eq_iff_iff]; simp [shapeN, *]; done) | (rw [Bool.eq_iff_iff]; simp [shapeN, *]; omega) | (rw [sum_zero hl hk]; simp [shapeN, *]; done)
set_option maxHeartbeats 4000000 in
theorem shaped_7 (s : Int) (n : Str) (ls : List Str) (kids : Nat) (lv : Value) (A' : Option Addr) (cap' : Nat) (w : World) (hn : n.length ≤ 9223372036854775807) (hl : ls.length ≤ 9223372036854775807) (hs : ∀ s ∈ ls, s.length ≤ 9223372036854775807) (hk : kids ≤ 9223372036854775807) (hv : IsStrs w lv ls) :
    Calls Tryd.prog 77 #[.agg #[.int .i64 7, .int .i64 s, .string ⟨n.toArray⟩, lv, .slice A' kids cap']] w fun e w' => e = .returned (.bool (shapeOk 7 s n ls kids)) ∧ Below w.heap.size w w' := by
  have HV := Lib.hid hv
  obtain ⟨A, cap, rfl, -, -⟩ := hv
  obtain ⟨ANS, hA⟩ : ∃ x, shapeOk 7 s n ls kids = x := ⟨_, rfl⟩
  rw [hA]
  have HS := Lib.hid hs; clear hs
  obtain ⟨L, hL⟩ : ∃ L, ls.length = L := ⟨_, rfl⟩
  have HL := Lib.hid hL
  obtain ⟨B, hB⟩ : ∃ x, labelsOk ls = x := ⟨_, rfl⟩
  have HB := Lib.hid hB
  unfold shapeOk at hA
  rw [hL, hB] at hA
  have HA := Lib.hid hA
  rw [hL] at hl HV ⊢; clear hL hA hB
  cases B
  all_goals
    go_enter Tryd.func77, Tryd.ntmps77
    go_wp2_with (go_at_call 107; go_must (refine (labels_any _ ls _ (HV.out.keep (by go_grown)) HS.out (by rw [HL.out]; exact hl)).mono ?_; rw [HB.out]; rintro e w1 ⟨rfl, hb1⟩; obtain ⟨hc1, hf1, hz1⟩ := bcell hb1))
    all_goals
      go_ret
      refine ⟨ret_bool' ?_, by first | (exact chain (by go_grown) hb1) | go_grown⟩
      rw [← HA.out]
      first | (simp [shapeN, *]; done) | (simp [shapeN, *]; omega) | (rw [Bool.eq_iff_iff]; simp [shapeN, *]; done) | (rw [Bool.eq_iff_iff]; simp [shapeN, *]; omega) | (rw [sum_zero hl hk]; simp [shapeN, *]; done)
set_option maxHeartbeats 4000000 in
theorem shaped_8 (s : Int) (n : Str) (ls : List Str) (kids : Nat) (lv : Value) (A' : Option Addr) (cap' : Nat) (w : World) (hn : n.length ≤ 9223372036854775807) (hl : ls.length ≤ 9223372036854775807) (hs : ∀ s ∈ ls, s.length ≤ 9223372036854775807) (hk : kids ≤ 9223372036854775807) (hv : IsStrs w lv ls) :
    Calls Tryd.prog 77 #[.agg #[.int .i64 8, .int .i64 s, .string ⟨n.toArray⟩, lv, .slice A' kids cap']] w fun e w' => e = .returned (.bool (shapeOk 8 s n ls kids)) ∧ Below w.heap.size w w' := by
  have HV := Lib.hid hv
  obtain ⟨A, cap, rfl, -, -⟩ := hv
  obtain ⟨ANS, hA⟩ : ∃ x, shapeOk 8 s n ls kids = x := ⟨_, rfl⟩
  rw [hA]
  have HS := Lib.hid hs; clear hs
  obtain ⟨L, hL⟩ : ∃ L, ls.length = L := ⟨_, rfl⟩
  have HL := Lib.hid hL
  obtain ⟨B, hB⟩ : ∃ x, labelsOk ls = x := ⟨_, rfl⟩
  have HB := Lib.hid hB
  unfold shapeOk at hA
  rw [hL, hB] at hA
  have HA := Lib.hid hA
  rw [hL] at hl HV ⊢; clear hL hA hB
  obtain ⟨C, hC⟩ : ∃ x, isVar n = x := ⟨_, rfl⟩
  have HC := Lib.hid hC; clear hC
  cases C
  all_goals
    go_enter Tryd.func77, Tryd.ntmps77
    go_wp2_with (go_at_call 22; go_must (refine (isVar_any n _ hn).mono ?_; rw [HC.out]; rintro e w1 ⟨rfl, hb1⟩; obtain ⟨hc1, hf1, hz1⟩ := bcell hb1))
    all_goals
      go_ret
      refine ⟨ret_bool' ?_, by first | (exact chain (by go_grown) hb1) | go_grown⟩
      rw [← HA.out]
      have hC := HC.out
      first | (simp [shapeN, *]; done) | (simp [shapeN, *]; omega) | (rw [Bool.eq_iff_iff]; simp [shapeN, *]; done) | (rw [Bool.eq_iff_iff]; simp [shapeN, *]; omega) | (rw [sum_zero hl hk]; simp [shapeN, *]; done)
set_option maxHeartbeats 4000000 in
theorem shaped_9 (s : Int) (n : Str) (ls : List Str) (kids : Nat) (lv : Value) (A' : Option Addr) (cap' : Nat) (w : World) (hn : n.length ≤ 9223372036854775807) (hl : ls.length ≤ 9223372036854775807) (hs : ∀ s ∈ ls, s.length ≤ 9223372036854775807) (hk : kids ≤ 9223372036854775807) (hv : IsStrs w lv ls) :
    Calls Tryd.prog 77 #[.agg #[.int .i64 9, .int .i64 s, .string ⟨n.toArray⟩, lv, .slice A' kids cap']] w fun e w' => e = .returned (.bool (shapeOk 9 s n ls kids)) ∧ Below w.heap.size w w' := by
  have HV := Lib.hid hv
  obtain ⟨A, cap, rfl, -, -⟩ := hv
  obtain ⟨ANS, hA⟩ : ∃ x, shapeOk 9 s n ls kids = x := ⟨_, rfl⟩
  rw [hA]
  have HS := Lib.hid hs; clear hs
  obtain ⟨L, hL⟩ : ∃ L, ls.length = L := ⟨_, rfl⟩
  have HL := Lib.hid hL
  obtain ⟨B, hB⟩ : ∃ x, labelsOk ls = x := ⟨_, rfl⟩
  have HB := Lib.hid hB
  unfold shapeOk at hA
  rw [hL, hB] at hA
  have HA := Lib.hid hA
  rw [hL] at hl HV ⊢; clear hL hA hB
  obtain ⟨C, hC⟩ : ∃ x, isVar n = x := ⟨_, rfl⟩
  have HC := Lib.hid hC; clear hC
  cases C
  all_goals
    go_enter Tryd.func77, Tryd.ntmps77
    go_wp2_with (go_at_call 22; go_must (refine (isVar_any n _ hn).mono ?_; rw [HC.out]; rintro e w1 ⟨rfl, hb1⟩; obtain ⟨hc1, hf1, hz1⟩ := bcell hb1))
    all_goals
      go_ret
      refine ⟨ret_bool' ?_, by first | (exact chain (by go_grown) hb1) | go_grown⟩
      rw [← HA.out]
      have hC := HC.out
      first | (simp [shapeN, *]; done) | (simp [shapeN, *]; omega) | (rw [Bool.eq_iff_iff]; simp [shapeN, *]; done) | (rw [Bool.eq_iff_iff]; simp [shapeN, *]; omega) | (rw [sum_zero hl hk]; simp [shapeN, *]; done)
set_option maxHeartbeats 4000000 in
theorem shaped_o (k : Int) (h1 : k ≠ 1) (h2 : k ≠ 2) (h3 : k ≠ 3) (h4 : k ≠ 4) (h5 : k ≠ 5) (h6 : k ≠ 6) (h7 : k ≠ 7) (h8 : k ≠ 8) (h9 : k ≠ 9) (s : Int) (n : Str) (ls : List Str) (kids : Nat) (lv : Value) (A' : Option Addr) (cap' : Nat) (w : World) (hn : n.length ≤ 9223372036854775807) (hl : ls.length ≤ 9223372036854775807) (hs : ∀ s ∈ ls, s.length ≤ 9223372036854775807) (hk : kids ≤ 9223372036854775807) (hv : IsStrs w lv ls) :
    Calls Tryd.prog 77 #[.agg #[.int .i64 k, .int .i64 s, .string ⟨n.toArray⟩, lv, .slice A' kids cap']] w fun e w' => e = .returned (.bool (shapeOk k s n ls kids)) ∧ Below w.heap.size w w' := by
  have HV := Lib.hid hv
  obtain ⟨A, cap, rfl, -, -⟩ := hv
  obtain ⟨ANS, hA⟩ : ∃ x, shapeOk k s n ls kids = x := ⟨_, rfl⟩
  rw [hA]
  have HS := Lib.hid hs; clear hs
  obtain ⟨L, hL⟩ : ∃ L, ls.length = L := ⟨_, rfl⟩
  have HL := Lib.hid hL
  obtain ⟨B, hB⟩ : ∃ x, labelsOk ls = x := ⟨_, rfl⟩
  have HB := Lib.hid hB
  unfold shapeOk at hA
  rw [hL, hB] at hA
  have HA := Lib.hid hA
  rw [hL] at hl HV ⊢; clear hL hA hB
  go_enter Tryd.func77, Tryd.ntmps77
  go_wp2_with fail
  all_goals
    go_ret
    refine ⟨ret_bool' ?_, by go_grown⟩
    rw [← HA.out]
    first | (simp [shapeN, *]; done) | (simp [shapeN, *]; omega) | (rw [Bool.eq_iff_iff]; simp [shapeN, *]; done) | (rw [Bool.eq_iff_iff]; simp [shapeN, *]; omega) | (rw [sum_zero hl hk]; simp [shapeN, *]; done)
end Go.Proofs.YtgnkncfnkjeinaaDoor
namespace Go.Proofs.YtgnkncfnkjeinaaDoor
open Go.RowKit Go.Proofs
set_option maxRecDepth 100000

set_option maxHeartbeats 4000000 in
theorem part_1 (s : Int) (n : Str) (ls : List Str) (kids : Nat) (lv : Value) (A' : Option Addr) (cap' : Nat) (w : World) (hn : n.length ≤ 9223372036854775807) (hl : ls.length ≤ 9223372036854775807) (hs : ∀ s ∈ ls, s.length ≤ 9223372036854775807) (hk : kids ≤ 9223372036854775807) (hv : IsStrs w lv ls) :
    Calls Tryd.prog 39 #[.agg #[.int .i64 1, .int .i64 s, .string ⟨n.toArray⟩, lv, .slice A' kids cap']] w fun e w' => e = .returned (.bool (shapeOk 1 s n ls kids)) ∧ Below w.heap.size w w' := by
  have HV := Lib.hid hv
  obtain ⟨A, cap, rfl, -, -⟩ := hv
  obtain ⟨ANS, hA⟩ : ∃ x, shapeOk 1 s n ls kids = x := ⟨_, rfl⟩
  rw [hA]
  have HS := Lib.hid hs; clear hs
  obtain ⟨L, hL⟩ : ∃ L, ls.length = L := ⟨_, rfl⟩
  have HL := Lib.hid hL
  obtain ⟨B, hB⟩ : ∃ x, labelsOk ls = x := ⟨_, rfl⟩
  have HB := Lib.hid hB
  unfold shapeOk at hA
  rw [hL, hB] at hA
  have HA := Lib.hid hA
  rw [hL] at hl HV ⊢; clear hL hA hB
  go_enter Tryd.func39, Tryd.ntmps39
  go_wp2_with fail
  all_goals
    go_ret
    refine ⟨ret_bool' ?_, by go_grown⟩
    rw [← HA.out]
    first | (simp [shapeN, *]; done) | (simp [shapeN, *]; omega) | (rw [Bool.eq_iff_iff]; simp [shapeN, *]; done) | (rw [Bool.eq_iff_iff]; simp [shapeN, *]; omega) | (rw [sum_zero hl hk]; simp [shapeN, *]; done)
set_option maxHeartbeats 4000000 in
theorem part_2 (s : Int) (n : Str) (ls : List Str) (kids : Nat) (lv : Value) (A' : Option Addr) (cap' : Nat) (w : World) (hn : n.length ≤ 9223372036854775807) (hl : ls.length ≤ 9223372036854775807) (hs : ∀ s ∈ ls, s.length ≤ 9223372036854775807) (hk : kids ≤ 9223372036854775807) (hv : IsStrs w lv ls) :
    Calls Tryd.prog 39 #[.agg #[.int .i64 2, .int .i64 s, .string ⟨n.toArray⟩, lv, .slice A' kids cap']] w fun e w' => e = .returned (.bool (shapeOk 2 s n ls kids)) ∧ Below w.heap.size w w' := by
  have HV := Lib.hid hv
  obtain ⟨A, cap, rfl, -, -⟩ := hv
  obtain ⟨ANS, hA⟩ : ∃ x, shapeOk 2 s n ls kids = x := ⟨_, rfl⟩
  rw [hA]
  have HS := Lib.hid hs; clear hs
  obtain ⟨L, hL⟩ : ∃ L, ls.length = L := ⟨_, rfl⟩
  have HL := Lib.hid hL
  obtain ⟨B, hB⟩ : ∃ x, labelsOk ls = x := ⟨_, rfl⟩
  have HB := Lib.hid hB
  unfold shapeOk at hA
  rw [hL, hB] at hA
  have HA := Lib.hid hA
  rw [hL] at hl HV ⊢; clear hL hA hB
  go_enter Tryd.func39, Tryd.ntmps39
  go_wp2_with fail
  all_goals
    go_ret
    refine ⟨ret_bool' ?_, by go_grown⟩
    rw [← HA.out]
    first | (simp [shapeN, *]; done) | (simp [shapeN, *]; omega) | (rw [Bool.eq_iff_iff]; simp [shapeN, *]; done) | (rw [Bool.eq_iff_iff]; simp [shapeN, *]; omega) | (rw [sum_zero hl hk]; simp [shapeN, *]; done)
set_option maxHeartbeats 4000000 in
theorem part_3 (s : Int) (n : Str) (ls : List Str) (kids : Nat) (lv : Value) (A' : Option Addr) (cap' : Nat) (w : World) (hn : n.length ≤ 9223372036854775807) (hl : ls.length ≤ 9223372036854775807) (hs : ∀ s ∈ ls, s.length ≤ 9223372036854775807) (hk : kids ≤ 9223372036854775807) (hv : IsStrs w lv ls) :
    Calls Tryd.prog 39 #[.agg #[.int .i64 3, .int .i64 s, .string ⟨n.toArray⟩, lv, .slice A' kids cap']] w fun e w' => e = .returned (.bool (shapeOk 3 s n ls kids)) ∧ Below w.heap.size w w' := by
  have HV := Lib.hid hv
  obtain ⟨A, cap, rfl, -, -⟩ := hv
  obtain ⟨ANS, hA⟩ : ∃ x, shapeOk 3 s n ls kids = x := ⟨_, rfl⟩
  rw [hA]
  have HS := Lib.hid hs; clear hs
  obtain ⟨L, hL⟩ : ∃ L, ls.length = L := ⟨_, rfl⟩
  have HL := Lib.hid hL
  obtain ⟨B, hB⟩ : ∃ x, labelsOk ls = x := ⟨_, rfl⟩
  have HB := Lib.hid hB
  unfold shapeOk at hA
  rw [hL, hB] at hA
  have HA := Lib.hid hA
  rw [hL] at hl HV ⊢; clear hL hA hB
  go_enter Tryd.func39, Tryd.ntmps39
  go_wp2_with fail
  all_goals
    go_ret
    refine ⟨ret_bool' ?_, by go_grown⟩
    rw [← HA.out]
    first | (simp [shapeN, *]; done) | (simp [shapeN, *]; omega) | (rw [Bool.eq_iff_iff]; simp [shapeN, *]; done) | (rw [Bool.eq_iff_iff]; simp [shapeN, *]; omega) | (rw [sum_zero hl hk]; simp [shapeN, *]; done)
set_option maxHeartbeats 4000000 in
theorem part_4 (s : Int) (n : Str) (ls : List Str) (kids : Nat) (lv : Value) (A' : Option Addr) (cap' : Nat) (w : World) (hn : n.length ≤ 9223372036854775807) (hl : ls.length ≤ 9223372036854775807) (hs : ∀ s ∈ ls, s.length ≤ 9223372036854775807) (hk : kids ≤ 9223372036854775807) (hv : IsStrs w lv ls) :
    Calls Tryd.prog 39 #[.agg #[.int .i64 4, .int .i64 s, .string ⟨n.toArray⟩, lv, .slice A' kids cap']] w fun e w' => e = .returned (.bool (shapeOk 4 s n ls kids)) ∧ Below w.heap.size w w' := by
  have HV := Lib.hid hv
  obtain ⟨A, cap, rfl, -, -⟩ := hv
  obtain ⟨ANS, hA⟩ : ∃ x, shapeOk 4 s n ls kids = x := ⟨_, rfl⟩
  rw [hA]
  have HS := Lib.hid hs; clear hs
  obtain ⟨L, hL⟩ : ∃ L, ls.length = L := ⟨_, rfl⟩
  have HL := Lib.hid hL
  obtain ⟨B, hB⟩ : ∃ x, labelsOk ls = x := ⟨_, rfl⟩
  have HB := Lib.hid hB
  unfold shapeOk at hA
  rw [hL, hB] at hA
  have HA := Lib.hid hA
  rw [hL] at hl HV ⊢; clear hL hA hB
  go_enter Tryd.func39, Tryd.ntmps39
  go_wp2_with fail
  all_goals
    go_ret
    refine ⟨ret_bool' ?_, by go_grown⟩
    rw [← HA.out]
    first | (simp [shapeN, *]; done) | (simp [shapeN, *]; omega) | (rw [Bool.eq_iff_iff]; simp [shapeN, *]; done) | (rw [Bool.eq_iff_iff]; simp [shapeN, *]; omega) | (rw [sum_zero hl hk]; simp [shapeN, *]; done)
set_option maxHeartbeats 4000000 in
theorem part_5 (s : Int) (n : Str) (ls : List Str) (kids : Nat) (lv : Value) (A' : Option Addr) (cap' : Nat) (w : World) (hn : n.length ≤ 9223372036854775807) (hl : ls.length ≤ 9223372036854775807) (hs : ∀ s ∈ ls, s.length ≤ 9223372036854775807) (hk : kids ≤ 9223372036854775807) (hv : IsStrs w lv ls) :
    Calls Tryd.prog 39 #[.agg #[.int .i64 5, .int .i64 s, .string ⟨n.toArray⟩, lv, .slice A' kids cap']] w fun e w' => e = .returned (.bool (shapeOk 5 s n ls kids)) ∧ Below w.heap.size w w' := by
  have HV := Lib.hid hv
  obtain ⟨A, cap, rfl, -, -⟩ := hv
  obtain ⟨ANS, hA⟩ : ∃ x, shapeOk 5 s n ls kids = x := ⟨_, rfl⟩
  rw [hA]
  have HS := Lib.hid hs; clear hs
  obtain ⟨L, hL⟩ : ∃ L, ls.length = L := ⟨_, rfl⟩
  have HL := Lib.hid hL
  obtain ⟨B, hB⟩ : ∃ x, labelsOk ls = x := ⟨_, rfl⟩
  have HB := Lib.hid hB
  unfold shapeOk at hA
  rw [hL, hB] at hA
  have HA := Lib.hid hA
  rw [hL] at hl HV ⊢; clear hL hA hB
  go_enter Tryd.func39, Tryd.ntmps39
  go_wp2_with fail
  all_goals
    go_ret
    refine ⟨ret_bool' ?_, by go_grown⟩
    rw [← HA.out]
    first | (simp [shapeN, *]; done) | (simp [shapeN, *]; omega) | (rw [Bool.eq_iff_iff]; simp [shapeN, *]; done) | (rw [Bool.eq_iff_iff]; simp [shapeN, *]; omega) | (rw [sum_zero hl hk]; simp [shapeN, *]; done)
set_option maxHeartbeats 4000000 in
theorem part_6 (s : Int) (n : Str) (ls : List Str) (kids : Nat) (lv : Value) (A' : Option Addr) (cap' : Nat) (w : World) (hn : n.length ≤ 9223372036854775807) (hl : ls.length ≤ 9223372036854775807) (hs : ∀ s ∈ ls, s.length ≤ 9223372036854775807) (hk : kids ≤ 9223372036854775807) (hv : IsStrs w lv ls) :
    Calls Tryd.prog 39 #[.agg #[.int .i64 6, .int .i64 s, .string ⟨n.toArray⟩, lv, .slice A' kids cap']] w fun e w' => e = .returned (.bool (shapeOk 6 s n ls kids)) ∧ Below w.heap.size w w' := by
  have HV := Lib.hid hv
  obtain ⟨A, cap, rfl, -, -⟩ := hv
  obtain ⟨ANS, hA⟩ : ∃ x, shapeOk 6 s n ls kids = x := ⟨_, rfl⟩
  rw [hA]
  have HS := Lib.hid hs; clear hs
  obtain ⟨L, hL⟩ : ∃ L, ls.length = L := ⟨_, rfl⟩
  have HL := Lib.hid hL
  obtain ⟨B, hB⟩ : ∃ x, labelsOk ls = x := ⟨_, rfl⟩
  have HB := Lib.hid hB
  unfold shapeOk at hA
  rw [hL, hB] at hA
  have HA := Lib.hid hA
  rw [hL] at hl HV ⊢; clear hL hA hB
  cases B
  all_goals
    go_enter Tryd.func39, Tryd.ntmps39
    go_wp2_with (go_at_call 74; go_must (refine (refLabels_any _ ls _ (HV.out.keep (by go_grown)) HS.out (by rw [HL.out]; exact hl)).mono ?_; rw [HB.out]; rintro e w1 ⟨rfl, hb1⟩; obtain ⟨hc1, hf1, hz1⟩ := bcell hb1))
    all_goals
      go_ret
      refine ⟨ret_bool' ?_, by first | (exact chain (by go_grown) hb1) | go_grown⟩
      rw [← HA.out]
      first | (simp [shapeN, *]; done) | (simp [shapeN, *]; omega) | (rw [Bool.eq_iff_iff]; simp [shapeN, *]; done) | (rw [Bool.eq_iff_iff]; simp [shapeN, *]; omega) | (rw [sum_zero hl hk]; simp [shapeN, *]; done)
set_option maxHeartbeats 4000000 in
theorem part_7 (s : Int) (n : Str) (ls : List Str) (kids : Nat) (lv : Value) (A' : Option Addr) (cap' : Nat) (w : World) (hn : n.length ≤ 9223372036854775807) (hl : ls.length ≤ 9223372036854775807) (hs : ∀ s ∈ ls, s.length ≤ 9223372036854775807) (hk : kids ≤ 9223372036854775807) (hv : IsStrs w lv ls) :
    Calls Tryd.prog 39 #[.agg #[.int .i64 7, .int .i64 s, .string ⟨n.toArray⟩, lv, .slice A' kids cap']] w fun e w' => e = .returned (.bool (shapeOk 7 s n ls kids)) ∧ Below w.heap.size w w' := by
  have HV := Lib.hid hv
  obtain ⟨A, cap, rfl, -, -⟩ := hv
  obtain ⟨ANS, hA⟩ : ∃ x, shapeOk 7 s n ls kids = x := ⟨_, rfl⟩
  rw [hA]
  have HS := Lib.hid hs; clear hs
  obtain ⟨L, hL⟩ : ∃ L, ls.length = L := ⟨_, rfl⟩
  have HL := Lib.hid hL
  obtain ⟨B, hB⟩ : ∃ x, labelsOk ls = x := ⟨_, rfl⟩
  have HB := Lib.hid hB
  unfold shapeOk at hA
  rw [hL, hB] at hA
  have HA := Lib.hid hA
  rw [hL] at hl HV ⊢; clear hL hA hB
  cases B
  all_goals
    go_enter Tryd.func39, Tryd.ntmps39
    go_wp2_with (go_at_call 74; go_must (refine (refLabels_any _ ls _ (HV.out.keep (by go_grown)) HS.out (by rw [HL.out]; exact hl)).mono ?_; rw [HB.out]; rintro e w1 ⟨rfl, hb1⟩; obtain ⟨hc1, hf1, hz1⟩ := bcell hb1))
    all_goals
      go_ret
      refine ⟨ret_bool' ?_, by first | (exact chain (by go_grown) hb1) | go_grown⟩
      rw [← HA.out]
      first | (simp [shapeN, *]; done) | (simp [shapeN, *]; omega) | (rw [Bool.eq_iff_iff]; simp [shapeN, *]; done) | (rw [Bool.eq_iff_iff]; simp [shapeN, *]; omega) | (rw [sum_zero hl hk]; simp [shapeN, *]; done)
set_option maxHeartbeats 4000000 in
theorem part_8 (s : Int) (n : Str) (ls : List Str) (kids : Nat) (lv : Value) (A' : Option Addr) (cap' : Nat) (w : World) (hn : n.length ≤ 9223372036854775807) (hl : ls.length ≤ 9223372036854775807) (hs : ∀ s ∈ ls, s.length ≤ 9223372036854775807) (hk : kids ≤ 9223372036854775807) (hv : IsStrs w lv ls) :
    Calls Tryd.prog 39 #[.agg #[.int .i64 8, .int .i64 s, .string ⟨n.toArray⟩, lv, .slice A' kids cap']] w fun e w' => e = .returned (.bool (shapeOk 8 s n ls kids)) ∧ Below w.heap.size w w' := by
  have HV := Lib.hid hv
  obtain ⟨A, cap, rfl, -, -⟩ := hv
  obtain ⟨ANS, hA⟩ : ∃ x, shapeOk 8 s n ls kids = x := ⟨_, rfl⟩
  rw [hA]
  have HS := Lib.hid hs; clear hs
  obtain ⟨L, hL⟩ : ∃ L, ls.length = L := ⟨_, rfl⟩
  have HL := Lib.hid hL
  obtain ⟨B, hB⟩ : ∃ x, labelsOk ls = x := ⟨_, rfl⟩
  have HB := Lib.hid hB
  unfold shapeOk at hA
  rw [hL, hB] at hA
  have HA := Lib.hid hA
  rw [hL] at hl HV ⊢; clear hL hA hB
  obtain ⟨C, hC⟩ : ∃ x, isVar n = x := ⟨_, rfl⟩
  have HC := Lib.hid hC; clear hC
  cases C
  all_goals
    go_enter Tryd.func39, Tryd.ntmps39
    go_wp2_with (go_at_call 23; go_must (refine (refIsVar_any n _ hn).mono ?_; rw [HC.out]; rintro e w1 ⟨rfl, hb1⟩; obtain ⟨hc1, hf1, hz1⟩ := bcell hb1))
    all_goals
      go_ret
      refine ⟨ret_bool' ?_, by first | (exact chain (by go_grown) hb1) | go_grown⟩
      rw [← HA.out]
      have hC := HC.out
      first | (simp [shapeN, *]; done) | (simp [shapeN, *]; omega) | (rw [Bool.eq_iff_iff]; simp [shapeN, *]; done) | (rw [Bool.eq_iff_iff]; simp [shapeN, *]; omega) | (rw [sum_zero hl hk]; simp [shapeN, *]; done)
set_option maxHeartbeats 4000000 in
theorem part_9 (s : Int) (n : Str) (ls : List Str) (kids : Nat) (lv : Value) (A' : Option Addr) (cap' : Nat) (w : World) (hn : n.length ≤ 9223372036854775807) (hl : ls.length ≤ 9223372036854775807) (hs : ∀ s ∈ ls, s.length ≤ 9223372036854775807) (hk : kids ≤ 9223372036854775807) (hv : IsStrs w lv ls) :
    Calls Tryd.prog 39 #[.agg #[.int .i64 9, .int .i64 s, .string ⟨n.toArray⟩, lv, .slice A' kids cap']] w fun e w' => e = .returned (.bool (shapeOk 9 s n ls kids)) ∧ Below w.heap.size w w' := by
  have HV := Lib.hid hv
  obtain ⟨A, cap, rfl, -, -⟩ := hv
  obtain ⟨ANS, hA⟩ : ∃ x, shapeOk 9 s n ls kids = x := ⟨_, rfl⟩
  rw [hA]
  have HS := Lib.hid hs; clear hs
  obtain ⟨L, hL⟩ : ∃ L, ls.length = L := ⟨_, rfl⟩
  have HL := Lib.hid hL
  obtain ⟨B, hB⟩ : ∃ x, labelsOk ls = x := ⟨_, rfl⟩
  have HB := Lib.hid hB
  unfold shapeOk at hA
  rw [hL, hB] at hA
  have HA := Lib.hid hA
  rw [hL] at hl HV ⊢; clear hL hA hB
  obtain ⟨C, hC⟩ : ∃ x, isVar n = x := ⟨_, rfl⟩
  have HC := Lib.hid hC; clear hC
  cases C
  all_goals
    go_enter Tryd.func39, Tryd.ntmps39
    go_wp2_with (go_at_call 23; go_must (refine (refIsVar_any n _ hn).mono ?_; rw [HC.out]; rintro e w1 ⟨rfl, hb1⟩; obtain ⟨hc1, hf1, hz1⟩ := bcell hb1))
    all_goals
      go_ret
      refine ⟨ret_bool' ?_, by first | (exact chain (by go_grown) hb1) | go_grown⟩
      rw [← HA.out]
      have hC := HC.out
      first | (simp [shapeN, *]; done) | (simp [shapeN, *]; omega) | (rw [Bool.eq_iff_iff]; simp [shapeN, *]; done) | (rw [Bool.eq_iff_iff]; simp [shapeN, *]; omega) | (rw [sum_zero hl hk]; simp [shapeN, *]; done)
set_option maxHeartbeats 4000000 in
theorem part_o (k : Int) (h1 : k ≠ 1) (h2 : k ≠ 2) (h3 : k ≠ 3) (h4 : k ≠ 4) (h5 : k ≠ 5) (h6 : k ≠ 6) (h7 : k ≠ 7) (h8 : k ≠ 8) (h9 : k ≠ 9) (s : Int) (n : Str) (ls : List Str) (kids : Nat) (lv : Value) (A' : Option Addr) (cap' : Nat) (w : World) (hn : n.length ≤ 9223372036854775807) (hl : ls.length ≤ 9223372036854775807) (hs : ∀ s ∈ ls, s.length ≤ 9223372036854775807) (hk : kids ≤ 9223372036854775807) (hv : IsStrs w lv ls) :
    Calls Tryd.prog 39 #[.agg #[.int .i64 k, .int .i64 s, .string ⟨n.toArray⟩, lv, .slice A' kids cap']] w fun e w' => e = .returned (.bool (shapeOk k s n ls kids)) ∧ Below w.heap.size w w' := by
  have HV := Lib.hid hv
  obtain ⟨A, cap, rfl, -, -⟩ := hv
  obtain ⟨ANS, hA⟩ : ∃ x, shapeOk k s n ls kids = x := ⟨_, rfl⟩
  rw [hA]
  have HS := Lib.hid hs; clear hs
  obtain ⟨L, hL⟩ : ∃ L, ls.length = L := ⟨_, rfl⟩
  have HL := Lib.hid hL
  obtain ⟨B, hB⟩ : ∃ x, labelsOk ls = x := ⟨_, rfl⟩
  have HB := Lib.hid hB
  unfold shapeOk at hA
  rw [hL, hB] at hA
  have HA := Lib.hid hA
  rw [hL] at hl HV ⊢; clear hL hA hB
  go_enter Tryd.func39, Tryd.ntmps39
  go_wp2_with fail
  all_goals
    go_ret
    refine ⟨ret_bool' ?_, by go_grown⟩
    rw [← HA.out]
    first | (simp [shapeN, *]; done) | (simp [shapeN, *]; omega) | (rw [Bool.eq_iff_iff]; simp [shapeN, *]; done) | (rw [Bool.eq_iff_iff]; simp [shapeN, *]; omega) | (rw [sum_zero hl hk]; simp [shapeN, *]; done)
theorem shaped_any (t : Ty) (v : Value) (w : World) (hv : IsTy w v t) (hf : Fit t) :
    Calls Tryd.prog 77 #[v] w fun e w' => e = .returned (.bool (shapeOk t.kind t.sort t.name t.labels t.kids.length)) ∧ Below w.heap.size w w' := by
  obtain ⟨lv, kv, rfl, h1, A, cap, rfl, -, -⟩ := hv
  obtain ⟨f1, f2, f3, f4, -⟩ := hf.parts
  unfold maxLen at f1 f2 f3 f4
  obtain ⟨k, s, n, ls, ks⟩ := t
  simp only [Ty.kind, Ty.sort, Ty.name, Ty.labels, Ty.kids] at *
  by_cases h : k = 1
  · subst h; exact shaped_1 s n ls ks.length lv A cap w f1 f2 f3 f4 h1
  by_cases h2 : k = 2
  · subst h2; exact shaped_2 s n ls ks.length lv A cap w f1 f2 f3 f4 h1
  by_cases h3 : k = 3
  · subst h3; exact shaped_3 s n ls ks.length lv A cap w f1 f2 f3 f4 h1
  by_cases h4 : k = 4
  · subst h4; exact shaped_4 s n ls ks.length lv A cap w f1 f2 f3 f4 h1
  by_cases h5 : k = 5
  · subst h5; exact shaped_5 s n ls ks.length lv A cap w f1 f2 f3 f4 h1
  by_cases h6 : k = 6
  · subst h6; exact shaped_6 s n ls ks.length lv A cap w f1 f2 f3 f4 h1
  by_cases h7 : k = 7
  · subst h7; exact shaped_7 s n ls ks.length lv A cap w f1 f2 f3 f4 h1
  by_cases h8 : k = 8
  · subst h8; exact shaped_8 s n ls ks.length lv A cap w f1 f2 f3 f4 h1
  by_cases h9 : k = 9
  · subst h9; exact shaped_9 s n ls ks.length lv A cap w f1 f2 f3 f4 h1
  exact shaped_o k h h2 h3 h4 h5 h6 h7 h8 h9 s n ls ks.length lv A cap w f1 f2 f3 f4 h1

theorem part_any (t : Ty) (v : Value) (w : World) (hv : IsTy w v t) (hf : Fit t) :
    Calls Tryd.prog 39 #[v] w fun e w' => e = .returned (.bool (shapeOk t.kind t.sort t.name t.labels t.kids.length)) ∧ Below w.heap.size w w' := by
  obtain ⟨lv, kv, rfl, h1, A, cap, rfl, -, -⟩ := hv
  obtain ⟨f1, f2, f3, f4, -⟩ := hf.parts
  unfold maxLen at f1 f2 f3 f4
  obtain ⟨k, s, n, ls, ks⟩ := t
  simp only [Ty.kind, Ty.sort, Ty.name, Ty.labels, Ty.kids] at *
  by_cases h : k = 1
  · subst h; exact part_1 s n ls ks.length lv A cap w f1 f2 f3 f4 h1
  by_cases h2 : k = 2
  · subst h2; exact part_2 s n ls ks.length lv A cap w f1 f2 f3 f4 h1
  by_cases h3 : k = 3
  · subst h3; exact part_3 s n ls ks.length lv A cap w f1 f2 f3 f4 h1
  by_cases h4 : k = 4
  · subst h4; exact part_4 s n ls ks.length lv A cap w f1 f2 f3 f4 h1
  by_cases h5 : k = 5
  · subst h5; exact part_5 s n ls ks.length lv A cap w f1 f2 f3 f4 h1
  by_cases h6 : k = 6
  · subst h6; exact part_6 s n ls ks.length lv A cap w f1 f2 f3 f4 h1
  by_cases h7 : k = 7
  · subst h7; exact part_7 s n ls ks.length lv A cap w f1 f2 f3 f4 h1
  by_cases h8 : k = 8
  · subst h8; exact part_8 s n ls ks.length lv A cap w f1 f2 f3 f4 h1
  by_cases h9 : k = 9
  · subst h9; exact part_9 s n ls ks.length lv A cap w f1 f2 f3 f4 h1
  exact part_o k h h2 h3 h4 h5 h6 h7 h8 h9 s n ls ks.length lv A cap w f1 f2 f3 f4 h1

end Go.Proofs.YtgnkncfnkjeinaaDoor
