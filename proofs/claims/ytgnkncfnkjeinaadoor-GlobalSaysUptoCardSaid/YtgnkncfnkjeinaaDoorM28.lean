/-
  Data that come in, with their bulk.
  Conversations that come in, opened.
-/
import Derived.Test.YtgnkncfnkjeinaaDoorM4
import Derived.Test.YtgnkncfnkjeinaaDoorRows
import Derived.Test.YtgnkncfnkjeinaaDoorM8
namespace Go.Proofs.YtgnkncfnkjeinaaDoor
set_option maxRecDepth 100000
open Go.ChangeShapes Go.WideShapes Go.ChangeAt Go.RowKit Go.Joins Go.Lib Go.Deep

section
variable {H : Type}
theorem bulkAll_le {ds : List (DataW H)} {d : DataW H} (h : d ∈ ds) : Rows.uptoBulk d ≤ Rows.uptoBulkAll ds := by
  induction ds with
  | nil => simp at h
  | cons a r ih =>
    simp only [Rows.uptoBulkAll]
    rcases List.mem_cons.1 h with rfl | h
    · omega
    · have := ih h; omega
theorem bulk_pos (d : DataW H) : 1 ≤ Rows.uptoBulk d := by
  cases d with
  | lit l => cases l <;> simp [Rows.uptoBulk]
  | _ => simp [Rows.uptoBulk]
theorem bulkAll_length (ds : List (DataW H)) : ds.length ≤ Rows.uptoBulkAll ds := by
  induction ds with
  | nil => simp
  | cons a r ih => simp only [Rows.uptoBulkAll, List.length_cons]; have := bulk_pos a; omega
end
section
variable {H : Type} {enc : TypeId × Value → H} {P : Program} {w : World} {base : Nat} {spare : Nat → Bool} {held : Bool}
theorem trod_fields_b {t : TypeId} {fs : Array Field} {fuel : Nat} {cs : List Value} {x : DataW H × List MemPlace} (ht : P.underlying t = some (.struct fs)) (hone : oneCellFields P fs = true) (hC : P.cellsOf t = fs.size) (h : DataW.trod enc P w base spare held fuel t cs = some x) :
    ∃ n, fuel = n + 1 ∧ cs.length = fs.size ∧ ∀ (i : Nat) (f : Field), fs[i]? = some f → ∃ c y, cs[i]? = some c ∧ DataW.trod enc P w base spare held n f.type [c] = some y ∧ Rows.uptoBulk y.1 ≤ Rows.uptoBulk x.1 := by
  obtain ⟨xs, n, rfl, rfl, hl, hlen, hf⟩ := DataW.trod_struct ht h
  refine ⟨n, rfl, by rw [hl, hC], fun i f hi => ?_⟩
  obtain ⟨k1, k2⟩ := hone_of hone i f hi
  have hi' : i < fs.size := (Array.getElem?_eq_some_iff.1 hi).1
  have := hf i f hi
  rw [k1, k2, take1_drop cs i (.bool false) (by omega), List.getElem?_eq_getElem (by omega)] at this
  refine ⟨_, _, by rw [List.getElem?_eq_getElem (by omega)], by rw [← this, List.getD, List.getElem?_eq_getElem (by omega)]; rfl, ?_⟩
  simp only [Rows.uptoBulk]
  exact Nat.le_succ_of_le (bulkAll_le (List.mem_map_of_mem (List.getElem_mem _)))
end
section
variable {H : Type} {enc : TypeId × Value → H} {W : World}
/-- A list of words that came in. -/
theorem open_texts_b {fuel : Nat} {cs : List Value} {x : DataW H × List MemPlace} (h : DataW.trod enc Tryd.prog W 0 (fun _ => true) true fuel 22 cs = some x) :
    ∃ (v : Value) (l : List Str), cs = [v] ∧ IsStrs W v l ∧ l.length ≤ Rows.uptoBulk x.1 ∧ ∀ s ∈ l, s.length ≤ Rows.uptoBulk x.1 := by
  rcases open_strs Tryd.underlying22 Tryd.underlying9 cellsStr h with ⟨rfl, -⟩ | ⟨a, len, cap, m, Sx, rfl, -, hl, hm, hmm, rfl, hx⟩
  · exact ⟨_, [], rfl, ⟨none, 0, rfl, Nat.le_refl _, fun h => by simp at h⟩, by simp, by simp⟩
  · have hmc : m = cap := by simpa using hmm
    have hk : ∀ d ∈ ((List.range len).map fun i => (DataW.lit (.string (Sx i).data.toList) : DataW H)), Rows.uptoBulk d ≤ Rows.uptoBulkAll ((List.range len).map fun i => (DataW.lit (.string (Sx i).data.toList) : DataW H)) := fun d hd => bulkAll_le hd
    have hn := bulkAll_length ((List.range len).map fun i => (DataW.lit (.string (Sx i).data.toList) : DataW H))
    simp only [List.length_map, List.length_range] at hn
    refine ⟨_, (List.range len).map fun i => (Sx i).data.toList, rfl, ⟨some a, cap, by simp, by simpa using hl, fun h0 => ?_⟩, by simp only [List.length_map, List.length_range, Rows.uptoBulk]; omega, ?_⟩
    · simp only [List.length_map, List.length_range] at h0
      obtain ⟨b, off, spot⟩ := a
      have hspot : spot = none := by simpa [Addr.add] using World.cell?_spot (hx 0 (by omega)).1
      subst hspot
      refine ⟨b, off, rfl, fun i s hi => ?_⟩
      simp only [List.getElem?_map, Option.map_eq_some_iff] at hi
      obtain ⟨j, hj, rfl⟩ := hi
      obtain ⟨hj1, hj2⟩ := List.getElem?_eq_some_iff.1 hj
      simp only [List.length_range, List.getElem_range] at hj1 hj2
      subst hj2
      have := (hx i (by omega)).1
      rw [Go.WideShapes.add_plain] at this
      rw [this, mk_data]
    · intro s hs
      obtain ⟨i, hi, rfl⟩ := List.mem_map.1 hs
      have := hk _ (List.mem_map_of_mem hi)
      simp only [Rows.uptoBulk] at this ⊢
      omega
theorem open_words {r : Reach} {b0 : Nat} {v : Value} {d : DataW H} {p : List MemPlace} (hv : Value.okWide Tryd.prog W r b0 22 v) (h : DataW.Trod enc Tryd.prog W 0 (fun _ => true) true 22 v d p) :
    ∃ l : List Str, IsStrs W v l ∧ l.length ≤ maxLen ∧ ∀ s ∈ l, s.length ≤ maxLen := by
  obtain ⟨a, n, c, rfl⟩ := okWide_slice Tryd.underlying22 hv
  obtain ⟨fuel, h⟩ := h
  obtain ⟨v', l, e, h1, h2, h3⟩ := open_texts h
  have e' : [Value.slice a n c] = [v'] := e
  simp only [List.cons.injEq, and_true] at e'
  subst e'
  exact ⟨l, h1, h2, h3⟩
end
end Go.Proofs.YtgnkncfnkjeinaaDoor
namespace Go.Proofs.YtgnkncfnkjeinaaDoor
open Go.ChangeShapes Go.WideShapes Go.ChangeAt Go.RowKit Go.Joins Go.Lib Go.Deep
/-- Lengths fit, and no row of parts is longer than N. -/
inductive GFit0 (N : Nat) : Gl → Prop where
  | mk (k : Int) (f o : Str) (s : Int) (n : Str) (ls : List Str) (ks : List Gl) (hf : f.length ≤ maxLen) (ho : o.length ≤ maxLen) (hn : n.length ≤ maxLen) (hl : ls.length ≤ maxLen) (hls : ∀ l ∈ ls, l.length ≤ maxLen) (hc : ks.length ≤ N) (hks : ∀ t ∈ ks, GFit0 N t) : GFit0 N (.mk k f o s n ls ks)
theorem GFit0.mono {N M : Nat} (hNM : N ≤ M) : ∀ {t : Gl}, GFit0 N t → GFit0 M t := by
  intro t h
  induction h with
  | mk k f o s n ls ks hf ho hn hl hls hc hks ih => exact .mk k f o s n ls ks hf ho hn hl hls (Nat.le_trans hc hNM) ih
theorem GFit0.fit {N : Nat} (hN : N ≤ 1000000000000) : ∀ {t : Gl}, GFit0 N t → GFit t := by
  intro t h
  induction h with
  | mk k f o s n ls ks hf ho hn hl hls hc hks ih => exact .mk k f o s n ls ks hf ho hn hl hls (Nat.le_trans hc hN) ih
section
variable {H : Type}
end
theorem GlRow_of {D : Blocks} {w : World} {b : Nat} : ∀ {ks : List Gl} {off : Nat}, (∀ (i : Nat) t, ks[i]? = some t → GlAt D w b (off + i * 7) t) → GlRow D w b off ks
  | [], _, _ => by simp [GlRow]
  | t :: r, off, h => by
    simp only [GlRow]
    refine ⟨by simpa using h 0 t rfl, GlRow_of fun i u hi => ?_⟩
    have := h (i + 1) u (by simpa using hi)
    rw [show off + 7 + i * 7 = off + (i + 1) * 7 by omega]
    exact this
set_option maxRecDepth 100000
theorem cellsGl : Tryd.prog.cellsOf 52 = 7 := by kernel_rfl
section
variable {H : Type} {enc : TypeId × Value → H} {P : Program} {w : World} {base : Nat} {spare : Nat → Bool} {held : Bool}
end
section
variable {H : Type} {enc : TypeId × Value → H} {W : World}
theorem open_gl_cells : ∀ (fuel : Nat) (cs : List Value) (x : DataW H × List MemPlace), DataW.trod enc Tryd.prog W 0 (fun _ => true) true fuel 52 cs = some x →
    ∃ (t : Gl) (lv kv : Value), cs = [.int .i64 t.kind, .string ⟨t.frm.toArray⟩, .string ⟨t.rcv.toArray⟩, .int .i64 t.sort, .string ⟨t.name.toArray⟩, lv, kv] ∧ IsStrs W lv t.labels ∧ Gls All W kv t.kids ∧ GFit0 (Rows.uptoBulk x.1) t := by
  intro fuel
  induction fuel using Nat.strongRecOn with
  | _ fuel ih =>
  intro cs x h
  obtain ⟨n, rfl, hl, hf⟩ := trod_fields_b Tryd.underlying52 (by kernel_rfl) cellsGl h
  obtain ⟨c0, c1, c2, c3, c4, c5, c6, rfl⟩ : ∃ c0 c1 c2 c3 c4 c5 c6, cs = [c0, c1, c2, c3, c4, c5, c6] := by
    match cs, hl with
    | [c0, c1, c2, c3, c4, c5, c6], _ => exact ⟨c0, c1, c2, c3, c4, c5, c6, rfl⟩
  obtain ⟨_, x0, e, h0, b0⟩ := hf 0 _ rfl
  obtain rfl := Option.some.inj e
  obtain ⟨_, x1, e, h1, b1⟩ := hf 1 _ rfl
  obtain rfl := Option.some.inj e
  obtain ⟨_, x2, e, h2, b2⟩ := hf 2 _ rfl
  obtain rfl := Option.some.inj e
  obtain ⟨_, x3, e, h3, b3⟩ := hf 3 _ rfl
  obtain rfl := Option.some.inj e
  obtain ⟨_, x4, e, h4, b4⟩ := hf 4 _ rfl
  obtain rfl := Option.some.inj e
  obtain ⟨_, x5, e, h5, b5⟩ := hf 5 _ rfl
  obtain rfl := Option.some.inj e
  obtain ⟨_, x6, e, h6, b6⟩ := hf 6 _ rfl
  obtain rfl := Option.some.inj e
  obtain ⟨k, e0, -, hk⟩ := DataW.trod_int Tryd.underlying3 h0
  obtain ⟨fr, e1, -, hfr⟩ := DataW.trod_string Tryd.underlying9 h1
  obtain ⟨rc, e2, -, hrc⟩ := DataW.trod_string Tryd.underlying9 h2
  obtain ⟨s, e3, -, hs⟩ := DataW.trod_int Tryd.underlying3 h3
  obtain ⟨nm, e4, -, hn⟩ := DataW.trod_string Tryd.underlying9 h4
  obtain ⟨lv, ls, e5, h3, hl3, hl3'⟩ := open_texts h5
  simp only [List.cons.injEq, and_true] at e0 e1 e2 e3 e4 e5
  subst e0 e1 e2 e3 e4 e5
  have hks : ∃ ks : List Gl, Gls All W c6 ks ∧ ks.length ≤ Rows.uptoBulk x6.1 ∧ ∀ t ∈ ks, GFit0 (Rows.uptoBulk x6.1) t := by
    rcases DataW.trod_slice Tryd.underlying50 h6 with ⟨e, -⟩ | ⟨a, len, cap, elems, rest, m, rfl, e, hx6, -, hl, hm, hlen, hel, -, -⟩
    · simp only [List.cons.injEq, and_true] at e
      subst e
      exact ⟨[], ⟨none, 0, rfl, Nat.le_refl _, fun h => by simp at h⟩, by simp, by simp⟩
    · simp only [List.cons.injEq, and_true] at e
      subst e
      rw [cellsGl] at hel
      have hbk : Rows.uptoBulkAll (elems.map (·.1)) ≤ Rows.uptoBulk x6.1 := by rw [hx6]; simp only [Rows.uptoBulk]; omega
      have hbl := bulkAll_length (elems.map (·.1))
      simp only [List.length_map] at hbl
      have each : ∀ i, i < len → ∃ (t : Gl), (∃ lv kv, (∀ j, j < 7 → W.cell? ((a.add (i * 7)).add j) = ([.int .i64 t.kind, .string ⟨t.frm.toArray⟩, .string ⟨t.rcv.toArray⟩, .int .i64 t.sort, .string ⟨t.name.toArray⟩, lv, kv] : List Value)[j]?) ∧ IsStrs W lv t.labels ∧ Gls All W kv t.kids) ∧ GFit0 (Rows.uptoBulk x6.1) t := by
        intro i hi
        have he := hel i hi
        rw [List.getElem?_eq_getElem (by omega)] at he
        obtain ⟨cs', hc1, hc2⟩ := Option.bind_eq_some_iff.1 he
        obtain ⟨t, lv, kv, rfl, h5, h6, h7⟩ := ih m (by omega) cs' _ hc2
        exact ⟨t, ⟨lv, kv, (World.cells?_some hc1).2.2, h5, h6⟩, h7.mono (Nat.le_trans (bulkAll_le (List.mem_map_of_mem (List.getElem_mem _))) hbk)⟩
      haveI : Inhabited Gl := ⟨.mk 0 [] [] 0 [] [] []⟩
      obtain ⟨T, hT⟩ := choose_lt each
      refine ⟨(List.range len).map T, ⟨some a, cap, by simp, by rw [List.length_map, List.length_range]; omega, fun h0 => ?_⟩, by simp; omega, ?_⟩
      · simp only [List.length_map, List.length_range] at h0
        obtain ⟨b, off, spot⟩ := a
        have hspot : spot = none := by
          obtain ⟨⟨_, _, hc, _⟩, _⟩ := hT 0 h0
          have := hc 0 (by omega)
          simp only [Nat.zero_mul] at this
          simpa [Addr.add] using World.cell?_spot this
        subst hspot
        refine ⟨b, off, rfl, trivial, GlRow_of fun i t hi => ?_⟩
        simp only [List.getElem?_map, Option.map_eq_some_iff] at hi
        obtain ⟨j, hj, rfl⟩ := hi
        obtain ⟨hj1, hj2⟩ := List.getElem?_eq_some_iff.1 hj
        simp only [List.length_range, List.getElem_range] at hj1 hj2
        subst hj2
        obtain ⟨⟨lv, kv, hc, h5, h6⟩, _⟩ := hT i hj1
        refine (GlAt_iff _ _ _ _ _).2 ⟨lv, kv, ?_, ?_, ?_, ?_, ?_, ?_, ?_, StrsD.any h5, h6⟩
        all_goals first
          | (have := hc 0 (by omega); rw [Go.WideShapes.add_plain, Go.WideShapes.add_plain] at this; exact this)
          | (have := hc 1 (by omega); rw [Go.WideShapes.add_plain, Go.WideShapes.add_plain] at this; exact this)
          | (have := hc 2 (by omega); rw [Go.WideShapes.add_plain, Go.WideShapes.add_plain] at this; exact this)
          | (have := hc 3 (by omega); rw [Go.WideShapes.add_plain, Go.WideShapes.add_plain] at this; exact this)
          | (have := hc 4 (by omega); rw [Go.WideShapes.add_plain, Go.WideShapes.add_plain] at this; exact this)
          | (have := hc 5 (by omega); rw [Go.WideShapes.add_plain, Go.WideShapes.add_plain] at this; exact this)
          | (have := hc 6 (by omega); rw [Go.WideShapes.add_plain, Go.WideShapes.add_plain] at this; exact this)
      · intro t ht
        obtain ⟨i, hi, rfl⟩ := List.mem_map.1 ht
        exact (hT i (List.mem_range.1 hi)).2
  obtain ⟨ks, hks1, hks2, hks3⟩ := hks
  refine ⟨.mk k fr.data.toList rc.data.toList s nm.data.toList ls ks, c5, c6, ?_, h3, hks1, ?_⟩
  · simp only [Gl.kind, Gl.frm, Gl.rcv, Gl.sort, Gl.name, mk_data]
  · exact .mk _ _ _ _ _ _ _ (by rw [← size_eq]; exact hfr) (by rw [← size_eq]; exact hrc) (by rw [← size_eq]; exact hn) hl3 hl3' (Nat.le_trans hks2 b6) fun t ht => (hks3 t ht).mono b6

/-- A conversation that came in. -/
theorem open_gl {r : Reach} {b0 : Nat} {v : Value} {d : DataW H} {p : List MemPlace} (hv : Value.okWide Tryd.prog W r b0 52 v) (h : DataW.Trod enc Tryd.prog W 0 (fun _ => true) true 52 v d p) :
    ∃ t : Gl, IsGl W v t ∧ GFit0 (Rows.uptoBulk d) t := by
  obtain ⟨cs, rfl, hc⟩ := okWide_struct Tryd.underlying52 hv
  obtain ⟨fuel, h⟩ := h
  obtain ⟨t, lv, kv, e, h1, h2, h3⟩ := open_gl_cells fuel _ _ h
  refine ⟨t, ⟨lv, kv, ?_, StrsD.any h1, h2⟩, h3⟩
  have : cs.toList = _ := e
  rw [← this]
end
end Go.Proofs.YtgnkncfnkjeinaaDoor
