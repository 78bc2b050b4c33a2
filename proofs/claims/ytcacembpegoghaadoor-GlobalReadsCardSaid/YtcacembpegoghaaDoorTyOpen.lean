/-
  Types that come in, opened: whatever reads as an api.Type is a tree that lies in memory, and its texts and rows are no longer than a length can be.
-/
import Derived.Test.YtcacembpegoghaaDoorTy
import Derived.Test.YtcacembpegoghaaDoorLaw
import Derived.ChangeArms
import Derived.DataReads
import Derived.Deep.Slices
import Derived.Deep.Strs
import Derived.Deep.Fields
namespace Go.Proofs.YtcacembpegoghaaDoor
open Go.ChangeShapes Go.WideShapes Go.ChangeAt Go.RowKit Go.Joins Go.Lib Go.Deep

/-- Lengths fit. -/
inductive Fit : Ty → Prop where
  | mk (k s : Int) (n : Str) (ls : List Str) (ks : List Ty) (hk : (Lit.int .i64 k).wf = true) (hs : (Lit.int .i64 s).wf = true) (hn : n.length ≤ maxLen) (hl : ls.length ≤ maxLen) (hls : ∀ l ∈ ls, l.length ≤ maxLen) (hc : ks.length ≤ maxLen) (hks : ∀ t ∈ ks, Fit t) : Fit (.mk k s n ls ks)

theorem Fit.parts {t : Ty} (h : Fit t) : t.name.length ≤ maxLen ∧ t.labels.length ≤ maxLen ∧ (∀ l ∈ t.labels, l.length ≤ maxLen) ∧ t.kids.length ≤ maxLen ∧ ∀ k ∈ t.kids, Fit k := by
  cases h with
  | mk k s n ls ks hk hs hn hl hls hc hks => exact ⟨hn, hl, hls, hc, hks⟩

set_option maxRecDepth 100000
theorem cellsTy : Tryd.prog.cellsOf 51 = 5 := by kernel_rfl
theorem cellsStr : Tryd.prog.cellsOf 9 = 1 := by kernel_rfl
theorem cellsInt : Tryd.prog.cellsOf 3 = 1 := by kernel_rfl
theorem cellsStrs : Tryd.prog.cellsOf 39 = 1 := by kernel_rfl
set_option maxRecDepth 100000
theorem cellsTys : Tryd.prog.cellsOf 49 = 1 := by kernel_rfl

section
variable {H : Type} {enc : TypeId × Value → H} {P : Program} {w : World} {base : Nat} {spare : Nat → Bool} {held : Bool}
/-- A struct of fields of one cell each: every cell reads, with less fuel. -/
theorem trod_fields {t : TypeId} {fs : Array Field} {fuel : Nat} {cs : List Value} {x : DataW H × List MemPlace} (ht : P.underlying t = some (.struct fs)) (hone : oneCellFields P fs = true) (hC : P.cellsOf t = fs.size) (h : DataW.trod enc P w base spare held fuel t cs = some x) :
    ∃ n, fuel = n + 1 ∧ cs.length = fs.size ∧ ∀ (i : Nat) (f : Field), fs[i]? = some f → ∃ c y, cs[i]? = some c ∧ DataW.trod enc P w base spare held n f.type [c] = some y := by
  obtain ⟨xs, n, rfl, -, hl, hlen, hf⟩ := DataW.trod_struct ht h
  refine ⟨n, rfl, by rw [hl, hC], fun i f hi => ?_⟩
  obtain ⟨k1, k2⟩ := hone_of hone i f hi
  have hi' : i < fs.size := (Array.getElem?_eq_some_iff.1 hi).1
  have := hf i f hi
  rw [k1, k2, take1_drop cs i (.bool false) (by omega), List.getElem?_eq_getElem (by omega)] at this
  exact ⟨_, _, by rw [List.getElem?_eq_getElem (by omega)], by rw [← this, List.getD, List.getElem?_eq_getElem (by omega)]; rfl⟩
end

section
variable {H : Type} {enc : TypeId × Value → H} {W : World}

theorem open_texts {fuel : Nat} {cs : List Value} {x : DataW H × List MemPlace} (h : DataW.trod enc Tryd.prog W 0 (fun _ => true) true fuel 39 cs = some x) :
    ∃ (v : Value) (l : List Str), cs = [v] ∧ IsStrs W v l ∧ l.length ≤ maxLen ∧ ∀ s ∈ l, s.length ≤ maxLen := by
  rcases open_strs Tryd.underlying39 Tryd.underlying9 cellsStr h with ⟨rfl, -⟩ | ⟨a, len, cap, m, Sx, rfl, -, hl, hm, hmm, -, hx⟩
  · exact ⟨_, [], rfl, ⟨none, 0, rfl, Nat.le_refl _, fun h => by simp at h⟩, by simp, by simp⟩
  · have hmc : m = cap := by simpa using hmm
    refine ⟨_, (List.range len).map fun i => (Sx i).data.toList, rfl, ⟨some a, cap, by simp, by simpa using hl, fun h0 => ?_⟩, by simp; omega, ?_⟩
    · simp only [List.length_map, List.length_range] at h0
      obtain ⟨b, off, spot⟩ := a
      have hspot : spot = none := by simpa [Addr.add] using World.cell?_spot (hx 0 (by omega)).1
      subst hspot
      refine ⟨b, off, rfl, fun i s hi => ?_⟩
      simp only [List.getElem?_map, Option.map_eq_some_iff] at hi
      obtain ⟨j, hj, rfl⟩ := hi
      obtain ⟨hj1, hj2⟩ := List.getElem?_eq_some_iff.1 hj
      simp only [List.length_range, List.getElem_range] at hj1 hj2
      subst hj2
      have := (hx i (by omega)).1
      rw [Go.WideShapes.add_plain] at this
      rw [this, mk_data]
    · intro s hs
      obtain ⟨i, hi, rfl⟩ := List.mem_map.1 hs
      have hi' := List.mem_range.1 hi
      have := (hx i (by omega)).2
      rw [size_eq] at this
      exact this

theorem open_type_cells : ∀ (fuel : Nat) (cs : List Value) (x : DataW H × List MemPlace), DataW.trod enc Tryd.prog W 0 (fun _ => true) true fuel 51 cs = some x →
    ∃ (t : Ty) (lv kv : Value), cs = [.int .i64 t.kind, .int .i64 t.sort, .string ⟨t.name.toArray⟩, lv, kv] ∧ IsStrs W lv t.labels ∧ IsTys W kv t.kids ∧ Fit t := by
  intro fuel
  induction fuel using Nat.strongRecOn with
  | _ fuel ih =>
  intro cs x h
  obtain ⟨n, rfl, hl, hf⟩ := trod_fields Tryd.underlying51 (by kernel_rfl) cellsTy h
  obtain ⟨c0, c1, c2, c3, c4, rfl⟩ : ∃ c0 c1 c2 c3 c4, cs = [c0, c1, c2, c3, c4] := by
    match cs, hl with
    | [c0, c1, c2, c3, c4], _ => exact ⟨c0, c1, c2, c3, c4, rfl⟩
  obtain ⟨_, x0, e, h0⟩ := hf 0 _ rfl
  obtain rfl := Option.some.inj e
  obtain ⟨_, x1, e, h1⟩ := hf 1 _ rfl
  obtain rfl := Option.some.inj e
  obtain ⟨_, x2, e, h2⟩ := hf 2 _ rfl
  obtain rfl := Option.some.inj e
  obtain ⟨_, x3, e, h3⟩ := hf 3 _ rfl
  obtain rfl := Option.some.inj e
  obtain ⟨_, x4, e, h4⟩ := hf 4 _ rfl
  obtain rfl := Option.some.inj e
  obtain ⟨k, e0, -, hk⟩ := DataW.trod_int Tryd.underlying3 h0
  obtain ⟨s, e1, -, hs⟩ := DataW.trod_int Tryd.underlying3 h1
  obtain ⟨nm, e2, -, hn⟩ := DataW.trod_string Tryd.underlying9 h2
  obtain ⟨lv, ls, e3, h3, hl3, hl3'⟩ := open_texts h3
  simp only [List.cons.injEq, and_true] at e0 e1 e2 e3
  subst e0 e1 e2 e3
  have hks : ∃ ks : List Ty, IsTys W c4 ks ∧ ks.length ≤ maxLen ∧ ∀ t ∈ ks, Fit t := by
    rcases DataW.trod_slice Tryd.underlying49 h4 with ⟨e, -⟩ | ⟨a, len, cap, elems, rest, m, rfl, e, -, -, hl, hm, hlen, hel, -, -⟩
    · simp only [List.cons.injEq, and_true] at e
      subst e
      exact ⟨[], ⟨none, 0, rfl, Nat.le_refl _, fun h => by simp at h⟩, by simp, by simp⟩
    · simp only [List.cons.injEq, and_true] at e
      subst e
      rw [cellsTy] at hel
      have each : ∀ i, i < len → ∃ (t : Ty), (∃ lv kv, (∀ j, j < 5 → W.cell? ((a.add (i * 5)).add j) = ([.int .i64 t.kind, .int .i64 t.sort, .string ⟨t.name.toArray⟩, lv, kv] : List Value)[j]?) ∧ IsStrs W lv t.labels ∧ IsTys W kv t.kids) ∧ Fit t := by
        intro i hi
        have he := hel i hi
        rw [List.getElem?_eq_getElem (by omega)] at he
        obtain ⟨cs', hc1, hc2⟩ := Option.bind_eq_some_iff.1 he
        obtain ⟨t, lv, kv, rfl, h5, h6, h7⟩ := ih m (by omega) cs' _ hc2
        exact ⟨t, ⟨lv, kv, (World.cells?_some hc1).2.2, h5, h6⟩, h7⟩
      haveI : Inhabited Ty := ⟨.mk 0 0 [] [] []⟩
      obtain ⟨T, hT⟩ := choose_lt each
      refine ⟨(List.range len).map T, ⟨some a, cap, by simp, by rw [List.length_map, List.length_range]; omega, fun h0 => ?_⟩, by simp; omega, ?_⟩
      · simp only [List.length_map, List.length_range] at h0
        obtain ⟨b, off, spot⟩ := a
        have hspot : spot = none := by
          obtain ⟨⟨_, _, hc, _⟩, _⟩ := hT 0 h0
          have := hc 0 (by omega)
          simp only [Nat.zero_mul] at this
          simpa [Addr.add] using World.cell?_spot this
        subst hspot
        refine ⟨b, off, rfl, TyRow_of fun i t hi => ?_⟩
        simp only [List.getElem?_map, Option.map_eq_some_iff] at hi
        obtain ⟨j, hj, rfl⟩ := hi
        obtain ⟨hj1, hj2⟩ := List.getElem?_eq_some_iff.1 hj
        simp only [List.length_range, List.getElem_range] at hj1 hj2
        subst hj2
        obtain ⟨⟨lv, kv, hc, h5, h6⟩, _⟩ := hT i hj1
        refine (TyAt_iff _ _ _ _).2 ⟨lv, kv, ?_, ?_, ?_, ?_, ?_, h5, h6⟩
        all_goals first
          | (have := hc 0 (by omega); rw [Go.WideShapes.add_plain, Go.WideShapes.add_plain] at this; exact this)
          | (have := hc 1 (by omega); rw [Go.WideShapes.add_plain, Go.WideShapes.add_plain] at this; exact this)
          | (have := hc 2 (by omega); rw [Go.WideShapes.add_plain, Go.WideShapes.add_plain] at this; exact this)
          | (have := hc 3 (by omega); rw [Go.WideShapes.add_plain, Go.WideShapes.add_plain] at this; exact this)
          | (have := hc 4 (by omega); rw [Go.WideShapes.add_plain, Go.WideShapes.add_plain] at this; exact this)
      · intro t ht
        obtain ⟨i, hi, rfl⟩ := List.mem_map.1 ht
        exact (hT i (List.mem_range.1 hi)).2
  obtain ⟨ks, hks1, hks2, hks3⟩ := hks
  refine ⟨.mk k s nm.data.toList ls ks, c3, c4, ?_, h3, hks1, ?_⟩
  · simp only [Ty.kind, Ty.sort, Ty.name, mk_data]
  · exact .mk _ _ _ _ _ hk hs (by rw [← size_eq]; exact hn) hl3 hl3' hks2 hks3

/-- A type that came in. -/
theorem open_type {r : Reach} {b0 : Nat} {v : Value} {d : DataW H} {p : List MemPlace} (hv : Value.okWide Tryd.prog W r b0 51 v) (h : DataW.Trod enc Tryd.prog W 0 (fun _ => true) true 51 v d p) :
    ∃ t : Ty, IsTy W v t ∧ Fit t := by
  obtain ⟨cs, rfl, hc⟩ := okWide_struct Tryd.underlying51 hv
  obtain ⟨fuel, h⟩ := h
  obtain ⟨t, lv, kv, e, h1, h2, h3⟩ := open_type_cells fuel _ _ h
  refine ⟨t, ⟨lv, kv, ?_, h1, h2⟩, h3⟩
  have : cs.toList = _ := e
  rw [← this]
end
end Go.Proofs.YtcacembpegoghaaDoor
