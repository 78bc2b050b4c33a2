/-
  From a walk of a law ('it returns true, and all that was there stays') to what its row asks behind the call; utf8's tables out of the row's list; a world in which these tables lie.
  Data that come in, opened: structs of one-cell fields, slices of texts.
  Data that come in, with their bulk.
  Lists of numbers that come in, with their bulk.
  Expressions that come in, opened.
-/
import Derived.Test.YtmklodgcbldndaaDoorM2
import Derived.ProofKit
import Derived.OpenShut
import Derived.Carry
import Derived.ChangeSame
import Derived.Deep.DeepHandedRow
import Derived.Lib.LaidTab
import Derived.Lib.LaidU8T
import Derived.PinnedBridge
import Derived.Lib.SmallJoins
import Derived.ChangeArms
import Derived.DataReads
import Derived.Deep.Slices
import Derived.Deep.Strs
import Derived.Deep.Fields
import Derived.Test.YtmklodgcbldndaaDoorRows
import Derived.ChangeSlices
import Derived.Test.YtmklodgcbldndaaDoorM4
namespace Go.Proofs.YtmklodgcbldndaaDoor
open Go.ChangeShapes Go.WideShapes Go.ChangeAt Go.RowKit Go.Joins Go.Lib

section
variable {H : Type} {enc : TypeId × Value → H} {P : Program}
theorem trodAll_below (hl : laidOutB P = true) {W W' : World} (hb : Below W.heap.size W W') : ∀ {ts : List TypeId} {vs : List Value} {ds : List (DataW H)} {ps : List MemPlace}, (∀ t ∈ ts, P.readableRec t = true ∧ t < P.types.size) →
    DataW.TrodAll enc P W 0 (fun _ => true) true ts vs ds ps → (∀ x ∈ ps, x.block < W.heap.size) → DataW.TrodAll enc P W' 0 (fun b => decide (b < W.heap.size)) true ts vs ds ps := by
  intro ts
  induction ts with
  | nil =>
    intro vs ds ps _ h _
    match vs, ds, h with
    | [], [], h => exact h
  | cons t ts ih =>
    intro vs ds ps hr h hlt
    cases vs with
    | nil => cases h
    | cons v vs =>
      cases ds with
      | nil => cases h
      | cons d ds =>
        obtain ⟨p, q, h1, h2, hp⟩ := h
        subst hp
        exact ⟨p, q, Below.trod hl (hr t (by simp)).1 (hr t (by simp)).2 h1 hb (fun x hx => hlt x (by simp [hx])), ih (fun t ht => hr t (by simp [ht])) h2 (fun x hx => hlt x (by simp [hx])), rfl⟩

/-- The row's own words behind a law's walk. -/
theorem law_post {f : FuncId} {fn : Func} {s : ChangeSpec} {W : World} {args : Array Value} {ds gs : List (DataW H)} {before : List MemPlace} {tb : TypeId} (hl : laidOutB P = true) (hr : (fn.params.toList.all fun t => P.readableRec t && decide (t < P.types.size)) = true)
    (hvars : s.vars = []) (hres : fn.resultTypes = #[tb]) (htb : P.underlying tb = some .bool)
    (hW : DataW.Whole enc P fn.params.toList s.vars false W args.toList ds gs before) (hspec : s.fn H ds = { results := [.lit (.bool true)], args := ds })
    (walk : Calls P f args W fun e w' => e = .returned (.bool true) ∧ Below W.heap.size W w') :
    Calls P f args W fun e W' => ∃ v, e = .returned v ∧ s.post enc P fn false true false false W args v W' := by
  refine walk.mono fun e W' ⟨he, hb⟩ => ?_
  subst he
  have hlt : ∀ p ∈ before, p.block < W.heap.size := fun p hp => hW.lt p hp
  have hW' := hW
  obtain ⟨p, q, hA, hV, rfl, hz, hn⟩ := hW'
  rw [hvars] at hV
  have hgs : gs = [] ∧ q = [] := by
    cases gs with
    | nil => exact ⟨rfl, hV⟩
    | cons a b => cases hV
  obtain ⟨rfl, rfl⟩ := hgs
  have hr' : ∀ t ∈ fn.params.toList, P.readableRec t = true ∧ t < P.types.size := by
    intro t ht
    have := List.all_eq_true.1 hr t ht
    simpa using this
  refine ⟨.bool true, rfl, ds, [], p ++ [], [], p, [], hW, ?_, ?_, ?_, hb.frame _, fun h => by cases h⟩
  · rw [List.append_nil, hspec, hres]
    exact trodAll_mk1 (shut_bool htb _)
  · rw [List.append_nil, hspec]
    exact trodAll_below hl hb hr' hA (fun x hx => hlt x (by simp [hx]))
  · rw [hvars, List.append_nil, hspec]
    rfl
end

theorem own : ownKnob Tryd.prog.godebug = none := by kernel_rfl
theorem laidOut : laidOutB Tryd.prog = true := by kernel_rfl

theorem u8types : U8Types Tryd.prog Tryd.lays196_ren := U8Types.of196 Tryd.lays196
theorem u8extra : U8Extra Tryd.prog Tryd.lays196_ren := ⟨by kernel_rfl, by kernel_rfl, by kernel_rfl, by kernel_rfl, by kernel_rfl, by kernel_rfl, by kernel_rfl⟩
/-- utf8's tables, out of a list that names them. -/
theorem tabs_of {laid : List (String × DataW Unit)} {W : World} (h : laidMet Tryd.prog laid W) (h1 : ("unicode/utf8.first", Go.Pinned.utf8First) ∈ laid) (h2 : ("unicode/utf8.acceptRanges", acceptData) ∈ laid) : Tabs W :=
  utf8Tabs_of_readsT u8types u8extra (by rw [← Go.Pinned.utf8First_eq]; exact laidMet.reads h h1) (laidMet.reads h h2)
end Go.Proofs.YtmklodgcbldndaaDoor
namespace Go.Proofs.YtmklodgcbldndaaDoor
open Go.ChangeShapes Go.WideShapes Go.ChangeAt Go.RowKit Go.Joins Go.Lib Go.Deep

set_option maxRecDepth 100000
theorem cellsStr : Tryd.prog.cellsOf 9 = 1 := by kernel_rfl
theorem cellsInt : Tryd.prog.cellsOf 3 = 1 := by kernel_rfl
theorem cellsStrs : Tryd.prog.cellsOf 27 = 1 := by kernel_rfl
section
variable {H : Type} {enc : TypeId × Value → H} {P : Program} {w : World} {base : Nat} {spare : Nat → Bool} {held : Bool}
/-- A struct of fields of one cell each: every cell reads, with less fuel. -/
theorem trod_fields {t : TypeId} {fs : Array Field} {fuel : Nat} {cs : List Value} {x : DataW H × List MemPlace} (ht : P.underlying t = some (.struct fs)) (hone : oneCellFields P fs = true) (hC : P.cellsOf t = fs.size) (h : DataW.trod enc P w base spare held fuel t cs = some x) :
    ∃ n, fuel = n + 1 ∧ cs.length = fs.size ∧ ∀ (i : Nat) (f : Field), fs[i]? = some f → ∃ c y, cs[i]? = some c ∧ DataW.trod enc P w base spare held n f.type [c] = some y := by
  obtain ⟨xs, n, rfl, -, hl, hlen, hf⟩ := DataW.trod_struct ht h
  refine ⟨n, rfl, by rw [hl, hC], fun i f hi => ?_⟩
  obtain ⟨k1, k2⟩ := hone_of hone i f hi
  have hi' : i < fs.size := (Array.getElem?_eq_some_iff.1 hi).1
  have := hf i f hi
  rw [k1, k2, take1_drop cs i (.bool false) (by omega), List.getElem?_eq_getElem (by omega)] at this
  exact ⟨_, _, by rw [List.getElem?_eq_getElem (by omega)], by rw [← this, List.getD, List.getElem?_eq_getElem (by omega)]; rfl⟩
end
section
variable {H : Type} {enc : TypeId × Value → H} {W : World}
theorem open_texts {fuel : Nat} {cs : List Value} {x : DataW H × List MemPlace} (h : DataW.trod enc Tryd.prog W 0 (fun _ => true) true fuel 27 cs = some x) :
    ∃ (v : Value) (l : List Str), cs = [v] ∧ IsStrs W v l ∧ l.length ≤ maxLen ∧ ∀ s ∈ l, s.length ≤ maxLen := by
  rcases open_strs Tryd.underlying27 Tryd.underlying9 cellsStr h with ⟨rfl, -⟩ | ⟨a, len, cap, m, Sx, rfl, -, hl, hm, hmm, -, hx⟩
  · exact ⟨_, [], rfl, ⟨none, 0, rfl, Nat.le_refl _, fun h => by simp at h⟩, by simp, by simp⟩
  · have hmc : m = cap := by simpa using hmm
    refine ⟨_, (List.range len).map fun i => (Sx i).data.toList, rfl, ⟨some a, cap, by simp, by simpa using hl, fun h0 => ?_⟩, by simp; omega, ?_⟩
    · simp only [List.length_map, List.length_range] at h0
      obtain ⟨b, off, spot⟩ := a
      have hspot : spot = none := by simpa [Addr.add] using World.cell?_spot (hx 0 (by omega)).1
      subst hspot
      refine ⟨b, off, rfl, fun i s hi => ?_⟩
      simp only [List.getElem?_map, Option.map_eq_some_iff] at hi
      obtain ⟨j, hj, rfl⟩ := hi
      obtain ⟨hj1, hj2⟩ := List.getElem?_eq_some_iff.1 hj
      simp only [List.length_range, List.getElem_range] at hj1 hj2
      subst hj2
      have := (hx i (by omega)).1
      rw [Go.WideShapes.add_plain] at this
      rw [this, mk_data]
    · intro s hs
      obtain ⟨i, hi, rfl⟩ := List.mem_map.1 hs
      have hi' := List.mem_range.1 hi
      have := (hx i (by omega)).2
      rw [size_eq] at this
      exact this
end
end Go.Proofs.YtmklodgcbldndaaDoor
namespace Go.Proofs.YtmklodgcbldndaaDoor
set_option maxRecDepth 100000
open Go.ChangeShapes Go.WideShapes Go.ChangeAt Go.RowKit Go.Joins Go.Lib Go.Deep

section
variable {H : Type}
theorem bulkAll_le {ds : List (DataW H)} {d : DataW H} (h : d ∈ ds) : Rows.uptoBulk d ≤ Rows.uptoBulkAll ds := by
  induction ds with
  | nil => simp at h
  | cons a r ih =>
    simp only [Rows.uptoBulkAll]
    rcases List.mem_cons.1 h with rfl | h
    · omega
    · have := ih h; omega
theorem bulk_pos (d : DataW H) : 1 ≤ Rows.uptoBulk d := by
  cases d with
  | lit l => cases l <;> simp [Rows.uptoBulk]
  | _ => simp [Rows.uptoBulk]
theorem bulkAll_length (ds : List (DataW H)) : ds.length ≤ Rows.uptoBulkAll ds := by
  induction ds with
  | nil => simp
  | cons a r ih => simp only [Rows.uptoBulkAll, List.length_cons]; have := bulk_pos a; omega
end
section
variable {H : Type} {enc : TypeId × Value → H} {P : Program} {w : World} {base : Nat} {spare : Nat → Bool} {held : Bool}
theorem trod_fields_b {t : TypeId} {fs : Array Field} {fuel : Nat} {cs : List Value} {x : DataW H × List MemPlace} (ht : P.underlying t = some (.struct fs)) (hone : oneCellFields P fs = true) (hC : P.cellsOf t = fs.size) (h : DataW.trod enc P w base spare held fuel t cs = some x) :
    ∃ n, fuel = n + 1 ∧ cs.length = fs.size ∧ ∀ (i : Nat) (f : Field), fs[i]? = some f → ∃ c y, cs[i]? = some c ∧ DataW.trod enc P w base spare held n f.type [c] = some y ∧ Rows.uptoBulk y.1 ≤ Rows.uptoBulk x.1 := by
  obtain ⟨xs, n, rfl, rfl, hl, hlen, hf⟩ := DataW.trod_struct ht h
  refine ⟨n, rfl, by rw [hl, hC], fun i f hi => ?_⟩
  obtain ⟨k1, k2⟩ := hone_of hone i f hi
  have hi' : i < fs.size := (Array.getElem?_eq_some_iff.1 hi).1
  have := hf i f hi
  rw [k1, k2, take1_drop cs i (.bool false) (by omega), List.getElem?_eq_getElem (by omega)] at this
  refine ⟨_, _, by rw [List.getElem?_eq_getElem (by omega)], by rw [← this, List.getD, List.getElem?_eq_getElem (by omega)]; rfl, ?_⟩
  simp only [Rows.uptoBulk]
  exact Nat.le_succ_of_le (bulkAll_le (List.mem_map_of_mem (List.getElem_mem _)))
end
section
variable {H : Type} {enc : TypeId × Value → H} {W : World}
/-- A list of words that came in. -/
theorem open_texts_b {fuel : Nat} {cs : List Value} {x : DataW H × List MemPlace} (h : DataW.trod enc Tryd.prog W 0 (fun _ => true) true fuel 27 cs = some x) :
    ∃ (v : Value) (l : List Str), cs = [v] ∧ IsStrs W v l ∧ l.length ≤ Rows.uptoBulk x.1 ∧ ∀ s ∈ l, s.length ≤ Rows.uptoBulk x.1 := by
  rcases open_strs Tryd.underlying27 Tryd.underlying9 cellsStr h with ⟨rfl, -⟩ | ⟨a, len, cap, m, Sx, rfl, -, hl, hm, hmm, rfl, hx⟩
  · exact ⟨_, [], rfl, ⟨none, 0, rfl, Nat.le_refl _, fun h => by simp at h⟩, by simp, by simp⟩
  · have hmc : m = cap := by simpa using hmm
    have hk : ∀ d ∈ ((List.range len).map fun i => (DataW.lit (.string (Sx i).data.toList) : DataW H)), Rows.uptoBulk d ≤ Rows.uptoBulkAll ((List.range len).map fun i => (DataW.lit (.string (Sx i).data.toList) : DataW H)) := fun d hd => bulkAll_le hd
    have hn := bulkAll_length ((List.range len).map fun i => (DataW.lit (.string (Sx i).data.toList) : DataW H))
    simp only [List.length_map, List.length_range] at hn
    refine ⟨_, (List.range len).map fun i => (Sx i).data.toList, rfl, ⟨some a, cap, by simp, by simpa using hl, fun h0 => ?_⟩, by simp only [List.length_map, List.length_range, Rows.uptoBulk]; omega, ?_⟩
    · simp only [List.length_map, List.length_range] at h0
      obtain ⟨b, off, spot⟩ := a
      have hspot : spot = none := by simpa [Addr.add] using World.cell?_spot (hx 0 (by omega)).1
      subst hspot
      refine ⟨b, off, rfl, fun i s hi => ?_⟩
      simp only [List.getElem?_map, Option.map_eq_some_iff] at hi
      obtain ⟨j, hj, rfl⟩ := hi
      obtain ⟨hj1, hj2⟩ := List.getElem?_eq_some_iff.1 hj
      simp only [List.length_range, List.getElem_range] at hj1 hj2
      subst hj2
      have := (hx i (by omega)).1
      rw [Go.WideShapes.add_plain] at this
      rw [this, mk_data]
    · intro s hs
      obtain ⟨i, hi, rfl⟩ := List.mem_map.1 hs
      have := hk _ (List.mem_map_of_mem hi)
      simp only [Rows.uptoBulk] at this ⊢
      omega
theorem open_words {r : Reach} {b0 : Nat} {v : Value} {d : DataW H} {p : List MemPlace} (hv : Value.okWide Tryd.prog W r b0 27 v) (h : DataW.Trod enc Tryd.prog W 0 (fun _ => true) true 27 v d p) :
    ∃ l : List Str, IsStrs W v l ∧ l.length ≤ maxLen ∧ ∀ s ∈ l, s.length ≤ maxLen := by
  obtain ⟨a, n, c, rfl⟩ := okWide_slice Tryd.underlying27 hv
  obtain ⟨fuel, h⟩ := h
  obtain ⟨v', l, e, h1, h2, h3⟩ := open_texts h
  have e' : [Value.slice a n c] = [v'] := e
  simp only [List.cons.injEq, and_true] at e'
  subst e'
  exact ⟨l, h1, h2, h3⟩
end
end Go.Proofs.YtmklodgcbldndaaDoor
namespace Go.Proofs.YtmklodgcbldndaaDoor
open Go.ChangeShapes Go.WideShapes Go.ChangeAt Go.RowKit Go.Joins Go.Lib Go.Deep

section
variable {H : Type} {enc : TypeId × Value → H} {W : World}
theorem open_ints_b {fuel : Nat} {cs : List Value} {x : DataW H × List MemPlace} (h : DataW.trod enc Tryd.prog W 0 (fun _ => true) true fuel 28 cs = some x) :
    ∃ (v : Value) (l : List Int), cs = [v] ∧ IntsD All W v l ∧ l.length ≤ Rows.uptoBulk x.1 ∧ ∀ n ∈ l, (Lit.int .i64 n).wf = true := by
  rcases Go.ChangeShapes.open_ints Tryd.underlying28 Tryd.underlying3 cellsInt h with ⟨rfl, -⟩ | ⟨a, len, cap, zs, rfl, -, hl, hm, hz, rfl, hx, hw⟩
  · exact ⟨_, [], rfl, no_ints _ _, by simp, by simp⟩
  · have hzc : zs.length = cap := by simpa using hz
    have hlen : (zs.take len).length = len := by rw [List.length_take]; omega
    have hn := bulkAll_length (Go.ChangeShapes.lits (H := H) .i64 (zs.take len))
    refine ⟨_, zs.take len, rfl, ⟨some a, cap, by rw [hlen], by rw [hlen]; exact hl, fun h0 => ?_⟩, ?_, fun n hn => hw n (List.mem_of_mem_take hn)⟩
    · rw [hlen] at h0
      obtain ⟨b, off, spot⟩ := a
      have hspot : spot = none := by simpa [Addr.add] using World.cell?_spot (hx 0 (by omega))
      subst hspot
      refine ⟨b, off, rfl, trivial, fun i s hi => ?_⟩
      obtain ⟨hi1, hi2⟩ := List.getElem?_eq_some_iff.1 hi
      rw [hlen] at hi1
      have := hx i (by omega)
      rw [Go.WideShapes.add_plain] at this
      rw [this, ← hi2, List.getElem_take]
      simp [List.getD, List.getElem?_eq_getElem (show i < zs.length by omega)]
    · rw [hlen]
      have e : (Go.ChangeShapes.lits (H := H) .i64 (zs.take len)).length = len := by unfold Go.ChangeShapes.lits; rw [List.length_map, hlen]
      rw [e] at hn
      simp only [Rows.uptoBulk]
      omega
end
end Go.Proofs.YtmklodgcbldndaaDoor
namespace Go.Proofs.YtmklodgcbldndaaDoor
open Go.ChangeShapes Go.WideShapes Go.ChangeAt Go.RowKit Go.Joins Go.Lib Go.Deep
set_option maxRecDepth 100000
theorem cellsEx : Tryd.prog.cellsOf 26 = 6 := by kernel_rfl
theorem cellsVl : Tryd.prog.cellsOf 23 = 3 := by kernel_rfl
theorem cellsExs : Tryd.prog.cellsOf 24 = 1 := by kernel_rfl
section
variable {H : Type} {enc : TypeId × Value → H} {W : World}
/-- A value that came in. -/
theorem open_val_cells {fuel : Nat} {cs : List Value} {x : DataW H × List MemPlace} (h : DataW.trod enc Tryd.prog W 0 (fun _ => true) true fuel 23 cs = some x) :
    ∃ (s n : Int) (t : Str), cs = [.int .i64 s, .int .i64 n, .string ⟨t.toArray⟩] ∧ (Lit.int .i64 s).wf = true ∧ (Lit.int .i64 n).wf = true ∧ t.length ≤ Rows.uptoBulk x.1 := by
  obtain ⟨n, rfl, hl, hf⟩ := trod_fields_b Tryd.underlying23 (by kernel_rfl) cellsVl h
  obtain ⟨c0, c1, c2, rfl⟩ : ∃ c0 c1 c2, cs = [c0, c1, c2] := by
    match cs, hl with
    | [c0, c1, c2], _ => exact ⟨c0, c1, c2, rfl⟩
  obtain ⟨_, x0, e, h0, b0⟩ := hf 0 _ rfl
  obtain rfl := Option.some.inj e
  obtain ⟨_, x1, e, h1, b1⟩ := hf 1 _ rfl
  obtain rfl := Option.some.inj e
  obtain ⟨_, x2, e, h2, b2⟩ := hf 2 _ rfl
  obtain rfl := Option.some.inj e
  obtain ⟨k, e0, -, hk⟩ := DataW.trod_int Tryd.underlying3 h0
  obtain ⟨m, e1, -, hm⟩ := DataW.trod_int Tryd.underlying2 h1
  obtain ⟨s, e2, hx2, hs⟩ := DataW.trod_string Tryd.underlying9 h2
  simp only [List.cons.injEq, and_true] at e0 e1 e2
  subst e0 e1 e2
  refine ⟨k, m, s.data.toList, by rw [mk_data], hk, hm, Nat.le_trans ?_ b2⟩
  rw [hx2]
  simp only [Rows.uptoBulk]
  omega
theorem open_ex_cells : ∀ (fuel : Nat) (cs : List Value) (x : DataW H × List MemPlace), DataW.trod enc Tryd.prog W 0 (fun _ => true) true fuel 26 cs = some x →
    ∃ (t : Ex) (kv : Value), cs = [.int .i64 t.kind, .string ⟨t.name.toArray⟩, .int .i64 t.vs, .int .i64 t.vn, .string ⟨t.vt.toArray⟩, kv] ∧ Exs All W kv t.kids ∧ ExFit (Rows.uptoBulk x.1) t := by
  intro fuel
  induction fuel using Nat.strongRecOn with
  | _ fuel ih =>
  intro cs x h
  obtain ⟨xs, n, rfl, rfl, hl, hlen, hf⟩ := DataW.trod_struct Tryd.underlying26 h
  rw [cellsEx] at hl
  obtain ⟨c0, c1, c2, c3, c4, c5, rfl⟩ : ∃ c0 c1 c2 c3 c4 c5, cs = [c0, c1, c2, c3, c4, c5] := by
    match cs, hl with
    | [c0, c1, c2, c3, c4, c5], _ => exact ⟨c0, c1, c2, c3, c4, c5, rfl⟩
  obtain ⟨y0, y1, y2, y3, rfl⟩ : ∃ y0 y1 y2 y3, xs = [y0, y1, y2, y3] := by
    match xs, hlen with
    | [y0, y1, y2, y3], _ => exact ⟨y0, y1, y2, y3, rfl⟩
  have h0 : DataW.trod enc Tryd.prog W 0 (fun _ => true) true n 3 (([c0, c1, c2, c3, c4, c5].drop 0).take (Tryd.prog.cellsOf 3)) = some y0 := hf 0 _ rfl
  have h1 : DataW.trod enc Tryd.prog W 0 (fun _ => true) true n 9 (([c0, c1, c2, c3, c4, c5].drop 1).take (Tryd.prog.cellsOf 9)) = some y1 := hf 1 _ rfl
  have h2 : DataW.trod enc Tryd.prog W 0 (fun _ => true) true n 23 (([c0, c1, c2, c3, c4, c5].drop 2).take (Tryd.prog.cellsOf 23)) = some y2 := hf 2 _ rfl
  have h3 : DataW.trod enc Tryd.prog W 0 (fun _ => true) true n 24 (([c0, c1, c2, c3, c4, c5].drop 5).take (Tryd.prog.cellsOf 24)) = some y3 := hf 3 _ rfl
  rw [cellsInt] at h0
  rw [cellsStr] at h1
  rw [cellsVl] at h2
  rw [cellsExs] at h3
  simp only [List.drop, List.take] at h0 h1 h2 h3
  obtain ⟨k, e0, -, hk⟩ := DataW.trod_int Tryd.underlying3 h0
  obtain ⟨nm, e1, hx1, hnm⟩ := DataW.trod_string Tryd.underlying9 h1
  obtain ⟨vs, vn, vt, e2, hvs, hvn, hvt⟩ := open_val_cells h2
  simp only [List.cons.injEq, and_true] at e0 e1 e2
  obtain ⟨e2, e3, e4⟩ := e2
  subst e0 e1 e2 e3 e4
  have hBT : Rows.uptoBulk (DataW.agg ([y0, y1, y2, y3].map (·.1))) = Rows.uptoBulk y0.1 + (Rows.uptoBulk y1.1 + (Rows.uptoBulk y2.1 + (Rows.uptoBulk y3.1 + 0))) + 1 := by simp only [List.map, Rows.uptoBulk, Rows.uptoBulkAll]
  have hks : ∃ ks : List Ex, Exs All W c5 ks ∧ ks.length ≤ Rows.uptoBulk y3.1 ∧ ∀ t ∈ ks, ExFit (Rows.uptoBulk y3.1) t := by
    rcases DataW.trod_slice Tryd.underlying24 h3 with ⟨e, -⟩ | ⟨a, len, cap, elems, rest, m, rfl, e, hx6, -, hl, hm, hlen, hel, -, -⟩
    · simp only [List.cons.injEq, and_true] at e
      subst e
      exact ⟨[], no_exs _ _, by simp, by simp⟩
    · simp only [List.cons.injEq, and_true] at e
      subst e
      rw [cellsEx] at hel
      have hbk : Rows.uptoBulkAll (elems.map (·.1)) ≤ Rows.uptoBulk y3.1 := by rw [hx6]; simp only [Rows.uptoBulk]; omega
      have hbl := bulkAll_length (elems.map (·.1))
      simp only [List.length_map] at hbl
      have each : ∀ i, i < len → ∃ (t : Ex), (∃ kv, (∀ j, j < 6 → W.cell? ((a.add (i * 6)).add j) = ([.int .i64 t.kind, .string ⟨t.name.toArray⟩, .int .i64 t.vs, .int .i64 t.vn, .string ⟨t.vt.toArray⟩, kv] : List Value)[j]?) ∧ Exs All W kv t.kids) ∧ ExFit (Rows.uptoBulk y3.1) t := by
        intro i hi
        have he := hel i hi
        rw [List.getElem?_eq_getElem (by omega)] at he
        obtain ⟨cs', hc1, hc2⟩ := Option.bind_eq_some_iff.1 he
        obtain ⟨t, kv, rfl, h6, h7⟩ := ih m (by omega) cs' _ hc2
        exact ⟨t, ⟨kv, (World.cells?_some hc1).2.2, h6⟩, h7.mono (Nat.le_trans (bulkAll_le (List.mem_map_of_mem (List.getElem_mem _))) hbk)⟩
      haveI : Inhabited Ex := ⟨zeroEx⟩
      obtain ⟨T, hT⟩ := choose_lt each
      refine ⟨(List.range len).map T, ⟨some a, cap, by simp, by rw [List.length_map, List.length_range]; omega, (fun e => by cases e), fun h0 => ?_⟩, by simp; omega, ?_⟩
      · simp only [List.length_map, List.length_range] at h0
        obtain ⟨b, off, spot⟩ := a
        have hspot : spot = none := by
          obtain ⟨⟨_, hc, _⟩, _⟩ := hT 0 h0
          have := hc 0 (by omega)
          simp only [Nat.zero_mul] at this
          simpa [Addr.add] using World.cell?_spot this
        subst hspot
        refine ⟨b, off, rfl, trivial, ExRow_of fun i t hi => ?_⟩
        simp only [List.getElem?_map, Option.map_eq_some_iff] at hi
        obtain ⟨j, hj, rfl⟩ := hi
        obtain ⟨hj1, hj2⟩ := List.getElem?_eq_some_iff.1 hj
        simp only [List.length_range, List.getElem_range] at hj1 hj2
        subst hj2
        obtain ⟨⟨kv, hc, h6⟩, _⟩ := hT i hj1
        refine (ExAt_iff _ _ _ _ _).2 ⟨kv, ?_, ?_, ?_, ?_, ?_, ?_, h6⟩
        all_goals first
          | (have := hc 0 (by omega); rw [Go.WideShapes.add_plain, Go.WideShapes.add_plain] at this; exact this)
          | (have := hc 1 (by omega); rw [Go.WideShapes.add_plain, Go.WideShapes.add_plain] at this; exact this)
          | (have := hc 2 (by omega); rw [Go.WideShapes.add_plain, Go.WideShapes.add_plain] at this; exact this)
          | (have := hc 3 (by omega); rw [Go.WideShapes.add_plain, Go.WideShapes.add_plain] at this; exact this)
          | (have := hc 4 (by omega); rw [Go.WideShapes.add_plain, Go.WideShapes.add_plain] at this; exact this)
          | (have := hc 5 (by omega); rw [Go.WideShapes.add_plain, Go.WideShapes.add_plain] at this; exact this)
      · intro t ht
        obtain ⟨i, hi, rfl⟩ := List.mem_map.1 ht
        exact (hT i (List.mem_range.1 hi)).2
  obtain ⟨ks, hks1, hks2, hks3⟩ := hks
  refine ⟨.mk k nm.data.toList vs vn vt ks, c5, ?_, hks1, ?_⟩
  · simp only [Ex.kind, Ex.name, Ex.vs, Ex.vn, Ex.vt, mk_data]
  · refine .mk _ _ _ _ _ _ hk ?_ hvs hvn ?_ ?_ fun t ht => (hks3 t ht).mono ?_
    · rw [hBT, hx1]
      simp only [Rows.uptoBulk]
      omega
    · rw [hBT]; omega
    · rw [hBT]; omega
    · rw [hBT]; omega
/-- An expression that came in. -/
theorem open_ex {r : Reach} {b0 : Nat} {v : Value} {d : DataW H} {p : List MemPlace} (hv : Value.okWide Tryd.prog W r b0 26 v) (h : DataW.Trod enc Tryd.prog W 0 (fun _ => true) true 26 v d p) :
    ∃ t : Ex, ExV All W v t ∧ ExFit (Rows.uptoBulk d) t := by
  obtain ⟨cs, rfl, hc⟩ := okWide_struct Tryd.underlying26 hv
  obtain ⟨fuel, h⟩ := h
  obtain ⟨t, kv, e, h2, h3⟩ := open_ex_cells fuel _ _ h
  refine ⟨t, ⟨kv, ?_, h2⟩, h3⟩
  have : cs.toList = _ := e
  rw [← this]
/-- Lists of words and of numbers that came in, with their bulk. -/
theorem open_words_b {r : Reach} {b0 : Nat} {v : Value} {d : DataW H} {p : List MemPlace} (hv : Value.okWide Tryd.prog W r b0 27 v) (h : DataW.Trod enc Tryd.prog W 0 (fun _ => true) true 27 v d p) :
    ∃ l : List Str, IsStrs W v l ∧ l.length ≤ Rows.uptoBulk d ∧ ∀ s ∈ l, s.length ≤ Rows.uptoBulk d := by
  obtain ⟨a, n, c, rfl⟩ := okWide_slice Tryd.underlying27 hv
  obtain ⟨fuel, h⟩ := h
  obtain ⟨v', l, e, h1, h2, h3⟩ := open_texts_b h
  have e' : [Value.slice a n c] = [v'] := e
  simp only [List.cons.injEq, and_true] at e'
  subst e'
  exact ⟨l, h1, h2, h3⟩
theorem open_nums_b {r : Reach} {b0 : Nat} {v : Value} {d : DataW H} {p : List MemPlace} (hv : Value.okWide Tryd.prog W r b0 28 v) (h : DataW.Trod enc Tryd.prog W 0 (fun _ => true) true 28 v d p) :
    ∃ l : List Int, IntsD All W v l ∧ l.length ≤ Rows.uptoBulk d := by
  obtain ⟨a, n, c, rfl⟩ := okWide_slice Tryd.underlying28 hv
  obtain ⟨fuel, h⟩ := h
  obtain ⟨v', l, e, h1, h2, h3⟩ := open_ints_b h
  have e' : [Value.slice a n c] = [v'] := e
  simp only [List.cons.injEq, and_true] at e'
  subst e'
  exact ⟨l, h1, h2⟩
end
end Go.Proofs.YtmklodgcbldndaaDoor
