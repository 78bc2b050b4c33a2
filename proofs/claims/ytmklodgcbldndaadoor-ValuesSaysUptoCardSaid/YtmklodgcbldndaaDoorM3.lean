/-
  Words of big numbers: add.
  Words of big numbers: mul.
  Big numbers: NewInt, Text and String at numbers of 64 bits: the decimal digits.
-/
import Derived.Test.YtmklodgcbldndaaDoorM2
import Derived.Laws.IdiomStrings
namespace Go.Proofs.YtmklodgcbldndaaDoor
open Go.RowKit Go.Proofs

set_option maxRecDepth 100000
/-- The cells of words. -/
abbrev wcells (l : List Nat) : List Value := l.map fun x : Nat => Value.int .u32 x
theorem wcells_set (l : List Nat) (k x : Nat) : ((wcells l).toArray).setIfInBounds k (.int .u32 (x : Nat)) = (wcells (l.set k x)).toArray := by
  apply Array.ext'
  simp [List.map_set]
theorem made_words (n : Nat) : madeCells #[Value.int .u32 0] n = (wcells (List.replicate n 0)).toArray := by
  apply Array.ext'
  rw [toList_madeCells_one]
  simp
/-- A slice of words that lies in a block of its own. -/
theorem wds_block {w : World} {q : Nat} {T : TypeId} {l : List Nat} {D : Blocks} (h : w.heap[q]? = some (.cells (wcells l).toArray T (0, 0))) (hD : D q) : Wds D w (.slice (some ⟨q, 0, none⟩) l.length l.length) l := by
  refine ⟨_, l.length, rfl, Nat.le_refl _, (fun e => by cases e), fun _ => ⟨q, 0, rfl, hD, fun i x hi => ?_⟩⟩
  rw [Lib.cell_of_heap h, Nat.zero_add]
  simp [wcells, hi]
theorem wds_at {D : Blocks} {w : World} {A : Option Addr} {n c : Nat} {l : List Nat} (h : Wds D w (.slice A n c) l) {i x : Nat} (hi : l[i]? = some x) : ∃ b off, A = some ⟨b, off, none⟩ ∧ D b ∧ w.cell? ⟨b, off + i, none⟩ = some (.int .u32 (x : Nat)) := by
  obtain ⟨A', c', e, _, _, h3⟩ := h
  injection e with e1 e2 e3
  subst e1
  have hl := (List.getElem?_eq_some_iff.1 hi).1
  obtain ⟨b, off, e', hd, hr⟩ := h3 (by omega)
  exact ⟨b, off, e', hd, hr i x hi⟩
theorem wds_form {D : Blocks} {w : World} {v : Value} {l : List Nat} (h : Wds D w v l) : ∃ A c, v = .slice A l.length c ∧ Wds D w (.slice A l.length c) l := by
  obtain ⟨A, c, rfl, h1⟩ := h
  exact ⟨A, c, rfl, A, c, rfl, h1⟩

/-- What stands between two rounds of add: the words so far, and what is carried. -/
def AddInv (a b : List Nat) (q : Nat) (T : TypeId) (L j c : Nat) (w : World) : Prop := ∃ (S : List Nat) (C : Array Value), S.length = j ∧ Ws S ∧ wval S + c * 4294967296 ^ j = wval (a.take j) + wval (b.take j) ∧ w.heap[q]? = some (.cells C T (0, 0)) ∧ C.size = L + 1 ∧ ∀ (i x : Nat), S[i]? = some x → C[i]? = some (.int .u32 (x : Nat))
theorem AddInv.step {a b : List Nat} {q : Nat} {T : TypeId} {L j c t : Nat} {w : World} (h : AddInv a b q T L j c w) (hj : j ≤ L) (ht : t = c + a.getD j 0 + b.getD j 0) : AddInv a b q T L (j + 1) (t / 4294967296) (w.setCell ⟨q, j, none⟩ (.int .u32 ((t % 4294967296 : Nat) : Int))) := by
  obtain ⟨S, C, h1, h2, h3, h4, h5, h6⟩ := h
  refine ⟨S ++ [t % 4294967296], _, by rw [List.length_append, List.length_singleton, h1], ws_snoc h2 (Nat.mod_lt _ (by decide)), add_word h1 h3 ht, block_set h4 j _, by rw [Array.size_setIfInBounds]; exact h5, fun i x hi => ?_⟩
  rcases Nat.lt_trichotomy i j with h7 | h7 | h7
  · rw [List.getElem?_append_left (by omega)] at hi
    rw [Array.getElem?_setIfInBounds, if_neg (by omega)]
    exact h6 i x hi
  · subst h7
    rw [List.getElem?_append_right (by omega), h1, Nat.sub_self] at hi
    simp only [List.getElem?_cons_zero, Option.some.injEq] at hi
    rw [Array.getElem?_setIfInBounds, if_pos rfl, if_pos (by omega), hi]
  · rw [List.getElem?_append_right (by omega), List.getElem?_eq_none (by simp; omega)] at hi
    cases hi
theorem AddInv.last {a b : List Nat} {q : Nat} {T : TypeId} {L c : Nat} {w : World} (h : AddInv a b q T L L c w) (ha : a.length = L) (hb : b.length ≤ L) (hc : c < 4294967296) : ∃ l, Ws l ∧ l.length = L + 1 ∧ wval l = wval a + wval b ∧ (w.setCell ⟨q, L, none⟩ (.int .u32 (c : Nat))).heap[q]? = some (.cells (wcells l).toArray T (0, 0)) := by
  obtain ⟨S, C, h1, h2, h3, h4, h5, h6⟩ := h
  refine ⟨S ++ [c], ws_snoc h2 hc, by simp [h1], ?_, ?_⟩
  · rw [wval_app, h1]
    rw [List.take_of_length_le (by omega), List.take_of_length_le (by omega)] at h3
    have : wval [c] = c := by simp [wval]
    rw [this, Nat.mul_comm]
    exact h3
  · rw [block_set h4 L _]
    congr 2
    apply Array.ext'
    apply List.ext_getElem?
    intro i
    rw [Array.getElem?_toList, Array.getElem?_setIfInBounds]
    simp only [List.getElem?_map]
    rcases Nat.lt_trichotomy i L with h7 | h7 | h7
    · rw [if_neg (by omega), List.getElem?_append_left (by omega)]
      rw [h6 i _ (List.getElem?_eq_getElem (by omega)), List.getElem?_eq_getElem (by omega)]
      rfl
    · subst h7
      rw [if_pos rfl, if_pos (by omega), List.getElem?_append_right (by omega), h1, Nat.sub_self]
      rfl
    · rw [if_neg (by omega), List.getElem?_eq_none (by simp; omega), Array.getElem?_eq_none (by omega)]
      rfl
theorem AddInv.cell {a b : List Nat} {q : Nat} {T : TypeId} {L j c : Nat} {w : World} (h : AddInv a b q T L j c w) (i : Nat) (hi : i ≤ L) : (∃ v, w.cell? ⟨q, i, none⟩ = some v) ∧ w.frozen? ⟨q, i, none⟩ = false := by
  obtain ⟨S, C, h1, h2, h3, h4, h5, h6⟩ := h
  exact ⟨⟨_, by rw [Lib.cell_of_heap h4]; exact Array.getElem?_eq_getElem (by omega)⟩, Lib.frozen_of_heap h4 i⟩

set_option maxHeartbeats 4000000 in
/-- add, the longer one first. -/
theorem badd_ge (D E : Blocks) (va vb : Value) (a b : List Nat) (w : World) (ha : Wds D w va a) (hb : Wds E w vb b) (hl : a.length ≤ 900000) (hlb : b.length ≤ a.length) (hwa : Ws a) (hwb : Ws b) :
    Calls Tryd.prog 81 #[va, vb] w fun e w' => (∃ v', e = .returned v' ∧ Wds (fun k => w.heap.size ≤ k) w' v' (wordsOf (wval a + wval b))) ∧ Below w.heap.size w w' := by
  obtain ⟨Aa, ca, rfl, ha⟩ := wds_form ha
  obtain ⟨Ab, cb, rfl, hb⟩ := wds_form hb
  have HA := Lib.hid ha
  have HB := Lib.hid hb
  obtain ⟨L, hL⟩ : ∃ L, a.length = L := ⟨_, rfl⟩
  obtain ⟨K, hK⟩ : ∃ K, b.length = K := ⟨_, rfl⟩
  have HL := Lib.hid hL
  have HK := Lib.hid hK
  have HWA := Lib.hid hwa
  have HWB := Lib.hid hwb
  rw [hL, hK] at hlb
  rw [hL] at hl
  rw [hL] at HA ⊢
  rw [hK] at HB ⊢
  clear ha hb hL hK hwa hwb
  obtain ⟨i0, z0, hi, hz0, hz1, hz2, -⟩ := rt_words.ex
  obtain ⟨M, hM⟩ : ∃ M, M = madeCells z0.cells (((L + 1 : Nat) : Int).toNat * i0.size) := ⟨_, rfl⟩
  have hMs : M.size = L + 1 := by rw [hM, size_madeCells, hz1]; simp
  have hmk : ∀ W : World, (Instr.makeSlice 82 (.int .i64 ((L : Int) + 1)) (.int .i64 ((L : Int) + 1))).run Tryd.prog W = .ok (.slice (some ⟨W.heap.size, 0, none⟩) (L + 1) (L + 1)) (W.alloc (.cells M 112)) := fun W => by
    have h := run_make (P := Tryd.prog) W 82 112 i0 _ Tryd.underlying82 hi hz0 .i64 .i64 ((L + 1 : Nat) : Int) ((L + 1 : Nat) : Int) (by omega) (by omega) (by rw [hz2]; omega) (by omega)
    rw [← hM] at h
    simpa using h
  have HMS := Lib.hid hMs
  clear hM hi hz0 hz1 hz2 hMs
  go_enter Tryd.func81, Tryd.ntmps81
  go_wp2_with fail
  obtain ⟨W, hW⟩ : ∃ W, w.alloc (.cells M 112) = W := ⟨_, rfl⟩
  have hbW : Below w.heap.size w W := by subst hW; go_grown
  have hblk : W.heap[w.heap.size]? = some (.cells M 112 (0, 0)) := by subst hW; show (w.heap.push _)[w.heap.size]? = _; simp
  try rw [hW]
  clear hW
  have h0 : AddInv a b w.heap.size 112 L 0 0 W := ⟨[], M, rfl, fun d hd => absurd hd (List.not_mem_nil), by simp [wval], hblk, HMS.out, fun i x h => by rw [List.getElem?_nil] at h; cases h⟩
  have H0 := Lib.hid h0
  clear h0 hblk
  go_loopw [6, 7] (fun cv i wr => ∃ (j c : Nat), j ≤ L ∧ i = .int .i64 j ∧ cv = .int .u64 c ∧ c ≤ 1 ∧ Hid (AddInv a b w.heap.size 112 L j c wr) ∧ Below w.heap.size w wr) (fun _ i _ => L - (intOf i).toNat)
  case atStart => exact ⟨0, 0, Nat.zero_le _, rfl, rfl, Nat.zero_le _, H0, hbW⟩
  case round =>
    clear hbW H0
    obtain ⟨j, c, hj, rfl, rfl, hc, hI, hbw⟩ := hrel
    obtain ⟨⟨cv, hc1⟩, hc2⟩ := hI.out.cell j hj
    by_cases hlt : j < L
    · obtain ⟨x, hx⟩ : ∃ x, a[j]? = some x := ⟨_, List.getElem?_eq_getElem (by have := HL.out; omega)⟩
      obtain ⟨ba, oa, rfl, -, hca⟩ := wds_at HA.out hx
      have hca := cell_keep hca hbw
      have hxl : x < 4294967296 := HWA.out x (mem_of_at hx)
      have HX := Lib.hid (getD_at hx)
      clear hx
      by_cases hlb2 : j < K
      · obtain ⟨y, hy⟩ : ∃ y, b[j]? = some y := ⟨_, List.getElem?_eq_getElem (by have := HK.out; omega)⟩
        obtain ⟨bb, ob, rfl, -, hcb⟩ := wds_at HB.out hy
        have hcb := cell_keep hcb hbw
        have hyl : y < 4294967296 := HWB.out y (mem_of_at hy)
        have HY := Lib.hid (getD_at hy)
        clear hy
        go_wp2_with fail
        have e1 : ((c : Int) + x + y) % 4294967296 = (((c + x + y) % 4294967296 : Nat) : Int) := by omega
        have e2 : ((c : Int) + x + y) / 4294967296 = (((c + x + y) / 4294967296 : Nat) : Int) := by omega
        rw [e1, e2]
        refine ⟨⟨j + 1, (c + x + y) / 4294967296, by omega, by go_num, rfl, by omega, Lib.hid (hI.out.step hj (by rw [HX.out, HY.out])), hbw.setCell (p := ⟨w.heap.size, j, none⟩) (Nat.le_refl _) _⟩, ?_⟩
        simp [intOf] <;> omega
      · have HY : Hid (b.getD j 0 = 0) := by show _ = _; simp [List.getD, List.getElem?_eq_none (show b.length ≤ j by have := HK.out; omega)]
        go_wp2_with fail
        have e1 : ((c : Int) + x) % 4294967296 = (((c + x) % 4294967296 : Nat) : Int) := by omega
        have e2 : ((c : Int) + x) / 4294967296 = (((c + x) / 4294967296 : Nat) : Int) := by omega
        rw [e1, e2]
        refine ⟨⟨j + 1, (c + x) / 4294967296, by omega, by go_num, rfl, by omega, Lib.hid (hI.out.step hj (by rw [HX.out, HY.out]; rfl)), hbw.setCell (p := ⟨w.heap.size, j, none⟩) (Nat.le_refl _) _⟩, ?_⟩
        simp [intOf] <;> omega
    · obtain rfl : j = L := by omega
      go_wp2_with fail
      obtain ⟨l, l1, l2, l3, l4⟩ := hI.out.last (by have := HL.out; omega) (by have := HK.out; omega) (show c < 4294967296 by omega)
      have hv := wds_block (D := fun k => w.heap.size ≤ k) l4 (Nat.le_refl _)
      rw [l2] at hv
      have hbw2 := hbw.setCell (p := ⟨w.heap.size, j, none⟩) (Nat.le_refl _) (.int .u32 (c : Nat))
      refine (btrim_any _ _ l _ hv (by omega)).mono ?_
      rintro e w2 ⟨⟨v, rfl, hv2⟩, rfl⟩
      go_wp2_with fail
      go_ret
      rw [trim_words l1, l3] at hv2
      exact ⟨⟨v, rfl, hv2⟩, hbw2⟩

set_option maxHeartbeats 4000000 in
/-- add, the longer one second. -/
theorem badd_lt (D E : Blocks) (va vb : Value) (a b : List Nat) (w : World) (ha : Wds D w va a) (hb : Wds E w vb b) (hl : a.length ≤ 900000) (hlb : b.length < a.length) (hwa : Ws a) (hwb : Ws b) :
    Calls Tryd.prog 81 #[vb, va] w fun e w' => (∃ v', e = .returned v' ∧ Wds (fun k => w.heap.size ≤ k) w' v' (wordsOf (wval a + wval b))) ∧ Below w.heap.size w w' := by
  obtain ⟨Aa, ca, rfl, ha⟩ := wds_form ha
  obtain ⟨Ab, cb, rfl, hb⟩ := wds_form hb
  have HA := Lib.hid ha
  have HB := Lib.hid hb
  obtain ⟨L, hL⟩ : ∃ L, a.length = L := ⟨_, rfl⟩
  obtain ⟨K, hK⟩ : ∃ K, b.length = K := ⟨_, rfl⟩
  have HL := Lib.hid hL
  have HK := Lib.hid hK
  have HWA := Lib.hid hwa
  have HWB := Lib.hid hwb
  rw [hL, hK] at hlb
  rw [hL] at hl
  rw [hL] at HA ⊢
  rw [hK] at HB ⊢
  clear ha hb hL hK hwa hwb
  obtain ⟨i0, z0, hi, hz0, hz1, hz2, -⟩ := rt_words.ex
  obtain ⟨M, hM⟩ : ∃ M, M = madeCells z0.cells (((L + 1 : Nat) : Int).toNat * i0.size) := ⟨_, rfl⟩
  have hMs : M.size = L + 1 := by rw [hM, size_madeCells, hz1]; simp
  have hmk : ∀ W : World, (Instr.makeSlice 82 (.int .i64 ((L : Int) + 1)) (.int .i64 ((L : Int) + 1))).run Tryd.prog W = .ok (.slice (some ⟨W.heap.size, 0, none⟩) (L + 1) (L + 1)) (W.alloc (.cells M 112)) := fun W => by
    have h := run_make (P := Tryd.prog) W 82 112 i0 _ Tryd.underlying82 hi hz0 .i64 .i64 ((L + 1 : Nat) : Int) ((L + 1 : Nat) : Int) (by omega) (by omega) (by rw [hz2]; omega) (by omega)
    rw [← hM] at h
    simpa using h
  have HMS := Lib.hid hMs
  clear hM hi hz0 hz1 hz2 hMs
  go_enter Tryd.func81, Tryd.ntmps81
  go_wp2_with fail
  obtain ⟨W, hW⟩ : ∃ W, w.alloc (.cells M 112) = W := ⟨_, rfl⟩
  have hbW : Below w.heap.size w W := by subst hW; go_grown
  have hblk : W.heap[w.heap.size]? = some (.cells M 112 (0, 0)) := by subst hW; show (w.heap.push _)[w.heap.size]? = _; simp
  try rw [hW]
  clear hW
  have h0 : AddInv a b w.heap.size 112 L 0 0 W := ⟨[], M, rfl, fun d hd => absurd hd (List.not_mem_nil), by simp [wval], hblk, HMS.out, fun i x h => by rw [List.getElem?_nil] at h; cases h⟩
  have H0 := Lib.hid h0
  clear h0 hblk
  go_loopw [6, 7] (fun cv i wr => ∃ (j c : Nat), j ≤ L ∧ i = .int .i64 j ∧ cv = .int .u64 c ∧ c ≤ 1 ∧ Hid (AddInv a b w.heap.size 112 L j c wr) ∧ Below w.heap.size w wr) (fun _ i _ => L - (intOf i).toNat)
  case atStart => exact ⟨0, 0, Nat.zero_le _, rfl, rfl, Nat.zero_le _, H0, hbW⟩
  case round =>
    clear hbW H0
    obtain ⟨j, c, hj, rfl, rfl, hc, hI, hbw⟩ := hrel
    obtain ⟨⟨cv, hc1⟩, hc2⟩ := hI.out.cell j hj
    by_cases hlt : j < L
    · obtain ⟨x, hx⟩ : ∃ x, a[j]? = some x := ⟨_, List.getElem?_eq_getElem (by have := HL.out; omega)⟩
      obtain ⟨ba, oa, rfl, -, hca⟩ := wds_at HA.out hx
      have hca := cell_keep hca hbw
      have hxl : x < 4294967296 := HWA.out x (mem_of_at hx)
      have HX := Lib.hid (getD_at hx)
      clear hx
      by_cases hlb2 : j < K
      · obtain ⟨y, hy⟩ : ∃ y, b[j]? = some y := ⟨_, List.getElem?_eq_getElem (by have := HK.out; omega)⟩
        obtain ⟨bb, ob, rfl, -, hcb⟩ := wds_at HB.out hy
        have hcb := cell_keep hcb hbw
        have hyl : y < 4294967296 := HWB.out y (mem_of_at hy)
        have HY := Lib.hid (getD_at hy)
        clear hy
        go_wp2_with fail
        have e1 : ((c : Int) + x + y) % 4294967296 = (((c + x + y) % 4294967296 : Nat) : Int) := by omega
        have e2 : ((c : Int) + x + y) / 4294967296 = (((c + x + y) / 4294967296 : Nat) : Int) := by omega
        rw [e1, e2]
        refine ⟨⟨j + 1, (c + x + y) / 4294967296, by omega, by go_num, rfl, by omega, Lib.hid (hI.out.step hj (by rw [HX.out, HY.out])), hbw.setCell (p := ⟨w.heap.size, j, none⟩) (Nat.le_refl _) _⟩, ?_⟩
        simp [intOf] <;> omega
      · have HY : Hid (b.getD j 0 = 0) := by show _ = _; simp [List.getD, List.getElem?_eq_none (show b.length ≤ j by have := HK.out; omega)]
        go_wp2_with fail
        have e1 : ((c : Int) + x) % 4294967296 = (((c + x) % 4294967296 : Nat) : Int) := by omega
        have e2 : ((c : Int) + x) / 4294967296 = (((c + x) / 4294967296 : Nat) : Int) := by omega
        rw [e1, e2]
        refine ⟨⟨j + 1, (c + x) / 4294967296, by omega, by go_num, rfl, by omega, Lib.hid (hI.out.step hj (by rw [HX.out, HY.out]; rfl)), hbw.setCell (p := ⟨w.heap.size, j, none⟩) (Nat.le_refl _) _⟩, ?_⟩
        simp [intOf] <;> omega
    · obtain rfl : j = L := by omega
      go_wp2_with fail
      obtain ⟨l, l1, l2, l3, l4⟩ := hI.out.last (by have := HL.out; omega) (by have := HK.out; omega) (show c < 4294967296 by omega)
      have hv := wds_block (D := fun k => w.heap.size ≤ k) l4 (Nat.le_refl _)
      rw [l2] at hv
      have hbw2 := hbw.setCell (p := ⟨w.heap.size, j, none⟩) (Nat.le_refl _) (.int .u32 (c : Nat))
      refine (btrim_any _ _ l _ hv (by omega)).mono ?_
      rintro e w2 ⟨⟨v, rfl, hv2⟩, rfl⟩
      go_wp2_with fail
      go_ret
      rw [trim_words l1, l3] at hv2
      exact ⟨⟨v, rfl, hv2⟩, hbw2⟩

theorem badd_any (D E : Blocks) (va vb : Value) (a b : List Nat) (w : World) (ha : Wds D w va a) (hb : Wds E w vb b) (hl : a.length ≤ 900000) (hlb : b.length ≤ 900000) (hwa : Ws a) (hwb : Ws b) :
    Calls Tryd.prog 81 #[va, vb] w fun e w' => (∃ v', e = .returned v' ∧ Wds (fun k => w.heap.size ≤ k) w' v' (wordsOf (wval a + wval b))) ∧ Below w.heap.size w w' := by
  rcases Nat.lt_or_ge a.length b.length with h | h
  · rw [Nat.add_comm]
    exact badd_lt E D vb va b a w hb ha hlb h hwb hwa
  · exact badd_ge D E va vb a b w ha hb hl h hwa hwb
end Go.Proofs.YtmklodgcbldndaaDoor
namespace Go.Proofs.YtmklodgcbldndaaDoor
open Go.RowKit Go.Proofs

set_option maxRecDepth 100000
/-- Between two rounds of the outer loop. -/
def MulO (a b : List Nat) (q : Nat) (T : TypeId) (i : Nat) (w : World) : Prop := ∃ R : List Nat, R.length = a.length + b.length ∧ Ws R ∧ w.heap[q]? = some (.cells (wcells R).toArray T (0, 0)) ∧ wval R = wval (a.take i) * wval b ∧ ∀ k, i + b.length ≤ k → k < a.length + b.length → R[k]? = some 0
/-- Between two rounds of the inner loop. -/
def MulI (a b : List Nat) (q : Nat) (T : TypeId) (i j c : Nat) (w : World) : Prop := ∃ R : List Nat, R.length = a.length + b.length ∧ Ws R ∧ w.heap[q]? = some (.cells (wcells R).toArray T (0, 0)) ∧ wval R + c * 4294967296 ^ (i + j) = wval (a.take i) * wval b + a.getD i 0 * wval (b.take j) * 4294967296 ^ i ∧ ∀ k, i + b.length ≤ k → k < a.length + b.length → R[k]? = some 0
section
variable {a b : List Nat} {q : Nat} {T : TypeId} {i j c : Nat} {w : World}
theorem MulO.start (h : MulO a b q T i w) : MulI a b q T i 0 0 w := by
  obtain ⟨R, h1, h2, h3, h4, h5⟩ := h
  exact ⟨R, h1, h2, h3, by simp [wval, h4], h5⟩
theorem wcell_at {R : List Nat} {k y : Nat} (h3 : w.heap[q]? = some (.cells (wcells R).toArray T (0, 0))) (h : R[k]? = some y) : w.cell? ⟨q, k, none⟩ = some (.int .u32 (y : Nat)) ∧ w.frozen? ⟨q, k, none⟩ = false := by
  refine ⟨?_, Lib.frozen_of_heap h3 k⟩
  rw [Lib.cell_of_heap h3]
  simp [wcells, h]
theorem MulI.at (h : MulI a b q T i j c w) (hi : i < a.length) (hj : j < b.length) : ∃ y, y < 4294967296 ∧ w.cell? ⟨q, i + j, none⟩ = some (.int .u32 (y : Nat)) ∧ w.frozen? ⟨q, i + j, none⟩ = false ∧ ∀ t, t = c + a.getD i 0 * b.getD j 0 + y → MulI a b q T i (j + 1) (t / 4294967296) (w.setCell ⟨q, i + j, none⟩ (.int .u32 ((t % 4294967296 : Nat) : Int))) := by
  obtain ⟨R, h1, h2, h3, h4, h5⟩ := h
  have hy : R[i + j]? = some R[i + j] := List.getElem?_eq_getElem (by omega)
  obtain ⟨k1, k2⟩ := wcell_at h3 hy
  refine ⟨_, h2 _ (mem_of_at hy), k1, k2, fun t ht => ⟨R.set (i + j) (t % 4294967296), by rw [List.length_set]; exact h1, ws_set h2 _ (Nat.mod_lt _ (by decide)), ?_, mul_word h4 hy ht, fun k g1 g2 => ?_⟩⟩
  · rw [block_set h3, wcells_set]
  · rw [List.getElem?_set_ne (by omega)]
    exact h5 k g1 g2
theorem MulI.last (h : MulI a b q T i b.length c w) (hi : i < a.length) (hb : 0 < b.length) (hc : c < 4294967296) : (∃ v, w.cell? ⟨q, i + b.length, none⟩ = some v) ∧ w.frozen? ⟨q, i + b.length, none⟩ = false ∧ MulO a b q T (i + 1) (w.setCell ⟨q, i + b.length, none⟩ (.int .u32 (c : Nat))) := by
  obtain ⟨R, h1, h2, h3, h4, h5⟩ := h
  have hy := h5 (i + b.length) (Nat.le_refl _) (by omega)
  obtain ⟨k1, k2⟩ := wcell_at h3 hy
  refine ⟨⟨_, k1⟩, k2, R.set (i + b.length) c, by rw [List.length_set]; exact h1, ws_set h2 _ hc, by rw [block_set h3, wcells_set], mul_last h4 hy, fun k g1 g2 => ?_⟩
  rw [List.getElem?_set_ne (by omega)]
  exact h5 k (by omega) g2
end
set_option maxHeartbeats 4000000 in
theorem bmul_any (D E : Blocks) (va vb : Value) (a b : List Nat) (w : World) (ha : Wds D w va a) (hb : Wds E w vb b) (hl : a.length ≤ 400000) (hlb : b.length ≤ 400000) (hwa : Ws a) (hwb : Ws b) :
    Calls Tryd.prog 82 #[va, vb] w fun e w' => (∃ v', e = .returned v' ∧ Wds (fun k => w.heap.size ≤ k) w' v' (wordsOf (wval a * wval b))) ∧ Below w.heap.size w w' := by
  obtain ⟨Aa, ca, rfl, ha⟩ := wds_form ha
  obtain ⟨Ab, cb, rfl, hb⟩ := wds_form hb
  have HA := Lib.hid ha
  have HB := Lib.hid hb
  obtain ⟨L, hL⟩ : ∃ L, a.length = L := ⟨_, rfl⟩
  obtain ⟨K, hK⟩ : ∃ K, b.length = K := ⟨_, rfl⟩
  have HL := Lib.hid hL
  have HK := Lib.hid hK
  have HWA := Lib.hid hwa
  have HWB := Lib.hid hwb
  rw [hL] at hl HA ⊢
  rw [hK] at hlb HB ⊢
  clear ha hb hL hK hwa hwb
  by_cases h0 : L = 0 ∨ K = 0
  · have HRES : Hid (wordsOf (wval a * wval b) = []) := Lib.hid (by
      rw [wordsOf_nil]
      rcases h0 with h | h
      · have : a = [] := List.eq_nil_of_length_eq_zero (by rw [HL.out]; exact h)
        rw [this]; simp [wval]
      · have : b = [] := List.eq_nil_of_length_eq_zero (by rw [HK.out]; exact h)
        rw [this]; simp [wval])
    by_cases hL0 : L = 0
    · subst hL0
      go_enter Tryd.func82, Tryd.ntmps82
      go_wp2_with fail
      go_ret
      exact ⟨⟨_, rfl, by rw [HRES.out]; exact Wds.none _ _⟩, Below.refl _ _⟩
    · have hK0 : K = 0 := by omega
      subst hK0
      have hLz : ((L : Int) == 0) = false := by rw [beq_eq_false_iff_ne]; omega
      go_enter Tryd.func82, Tryd.ntmps82
      go_wp2_with fail
      go_ret
      exact ⟨⟨_, rfl, by rw [HRES.out]; exact Wds.none _ _⟩, Below.refl _ _⟩
  · have hLz : ((L : Int) == 0) = false := by rw [beq_eq_false_iff_ne]; omega
    have hKz : ((K : Int) == 0) = false := by rw [beq_eq_false_iff_ne]; omega
    have hL1 : 1 ≤ L := by omega
    have hK1 : 1 ≤ K := by omega
    obtain ⟨i0, z0, hi, hz0, hz1, hz2, -⟩ := rt_words.ex
    have hz0' : some z0 = some (.int .u32 0) := by
      have := info_parts (show (Tryd.prog.info? 112).map (fun i => (i.zero, i.size, i.bytes)) = some (some (.int .u32 0), 1, 4) by kernel_rfl)
      obtain ⟨i', k1, k2, -⟩ := this
      rw [hi] at k1
      obtain rfl := Option.some.inj k1
      exact hz0.symm.trans k2
    obtain rfl := Option.some.inj hz0'
    have hmk : ∀ W : World, (Instr.makeSlice 82 (.int .i64 ((L : Int) + (K : Int))) (.int .i64 ((L : Int) + (K : Int)))).run Tryd.prog W = .ok (.slice (some ⟨W.heap.size, 0, none⟩) (L + K) (L + K)) (W.alloc (.cells (wcells (List.replicate (L + K) 0)).toArray 112)) := fun W => by
      have h := run_make (P := Tryd.prog) W 82 112 i0 _ Tryd.underlying82 hi hz0 .i64 .i64 ((L + K : Nat) : Int) ((L + K : Nat) : Int) (by omega) (by omega) (by rw [hz2]; omega) (by omega)
      rw [hz1, Nat.mul_one, Int.toNat_natCast] at h
      rw [show (Value.int IntKind.u32 0).cells = #[.int .u32 0] from rfl, made_words] at h
      simpa using h
    clear hi hz0 hz1 hz2 hz0'
    obtain ⟨M, hM⟩ : ∃ M, (wcells (List.replicate (L + K) 0)).toArray = M := ⟨_, rfl⟩
    have HM := Lib.hid hM
    rw [hM] at hmk
    clear hM
    go_enter Tryd.func82, Tryd.ntmps82
    go_wp2_with fail
    obtain ⟨W, hW⟩ : ∃ W, w.alloc (.cells M 112) = W := ⟨_, rfl⟩
    have hbW : Below w.heap.size w W := by subst hW; go_grown
    have hblk : W.heap[w.heap.size]? = some (.cells M 112 (0, 0)) := by subst hW; show (w.heap.push _)[w.heap.size]? = _; simp
    try rw [hW]
    clear hW
    have h0 : MulO a b w.heap.size 112 0 W := ⟨List.replicate (L + K) 0, by rw [List.length_replicate, HL.out, HK.out], fun d hd => by rw [(List.mem_replicate.1 hd).2]; decide, by rw [HM.out]; exact hblk, by
      have : ∀ n, wval (List.replicate n 0) = 0 := fun n => by induction n with
        | zero => rfl
        | succ n ih => simp [List.replicate_succ, wval, ih]
      rw [this]; simp [wval], fun k _ hk => by rw [List.getElem?_replicate, if_pos (by rw [HL.out, HK.out] at hk; exact hk)]⟩
    have H0 := Lib.hid h0
    clear h0 hblk
    go_loopw [6] (fun iv wr => ∃ i : Nat, i ≤ L ∧ iv = .int .i64 i ∧ Hid (MulO a b w.heap.size 112 i wr) ∧ Below w.heap.size w wr) (fun iv _ => L - (intOf iv).toNat)
    case atStart => exact ⟨0, Nat.zero_le _, rfl, H0, hbW⟩
    case round =>
      clear hbW H0
      obtain ⟨i, hi, rfl, hO, hbw⟩ := hrel
      by_cases hlt : i < L
      · obtain ⟨x, hx⟩ : ∃ x, a[i]? = some x := ⟨_, List.getElem?_eq_getElem (by have := HL.out; omega)⟩
        obtain ⟨ba, oa, rfl, -, hca0⟩ := wds_at HA.out hx
        have hxl : x < 4294967296 := HWA.out x (mem_of_at hx)
        have HX := Lib.hid (getD_at hx)
        have HI := Lib.hid hO.out.start
        clear hx hO
        go_wp2_with fail
        go_loopw [7, 8] (fun cv jv wq => ∃ (j c : Nat), j ≤ K ∧ jv = .int .i64 j ∧ cv = .int .u64 c ∧ c < 4294967296 ∧ Hid (MulI a b w.heap.size 112 i j c wq) ∧ Below w.heap.size w wq) (fun _ jv _ => K - (intOf jv).toNat)
        case atStart => exact ⟨0, 0, Nat.zero_le _, rfl, rfl, by decide, HI, hbw⟩
        case round =>
          clear HI hbw
          obtain ⟨j, c, hj, rfl, rfl, hc, hI, hbw⟩ := hrel
          by_cases hlt2 : j < K
          · obtain ⟨z, hz⟩ : ∃ z, b[j]? = some z := ⟨_, List.getElem?_eq_getElem (by have := HK.out; omega)⟩
            obtain ⟨bb, ob, rfl, -, hcb0⟩ := wds_at HB.out hz
            have hzl : z < 4294967296 := HWB.out z (mem_of_at hz)
            have HZ := Lib.hid (getD_at hz)
            obtain ⟨y, hyl, hcy, hfy, hst⟩ := hI.out.at (by have := HL.out; omega) (by have := HK.out; omega)
            have HST := Lib.hid hst
            have hca := cell_keep hca0 hbw
            have hcb := cell_keep hcb0 hbw
            obtain ⟨P, hP⟩ : ∃ P, x * z = P := ⟨_, rfl⟩
            have hPl : P ≤ 18446744065119617025 := by
              rw [← hP]
              exact Nat.mul_le_mul (Nat.le_of_lt_succ hxl) (Nat.le_of_lt_succ hzl)
            have hPz : (x : Int) * (z : Int) = (P : Int) := by rw [← hP, Int.natCast_mul]
            have HP := Lib.hid hP
            clear hz hst hP
            have w1 : IntKind.u64.wrap ((x : Int) * (z : Int)) = (P : Int) := by rw [hPz, Go.IntWalk.u64_in _ (by omega)]
            have w2 : IntKind.u64.wrap ((P : Int) + (y : Int)) = (P : Int) + (y : Int) := Go.IntWalk.u64_in _ (by omega)
            have w3 : IntKind.u64.wrap ((c : Int) + ((P : Int) + (y : Int))) = (c : Int) + ((P : Int) + (y : Int)) := Go.IntWalk.u64_in _ (by omega)
            have w4 : IntKind.i64.wrap ((i : Int) + (j : Int)) = (i : Int) + (j : Int) := Go.IntWalk.i64_in _ (by omega)
            have w5 : 0 ≤ (i : Int) + (j : Int) := by omega
            have w6 : ((i : Int) + (j : Int)).toNat = i + j := by omega
            have w7 : i + j < L + K := by omega
            have w8 : (i : Int) + (j : Int) < ((L + K : Nat) : Int) := by omega
            go_wp2_with fail
            go_quiet (fail)
            have hcy2 : (wr.drewN nq).cell? ⟨w.heap.size, i + j, none⟩ = some (.int .u32 (y : Nat)) := hcy
            have hfy2 : (wr.drewN nq).frozen? ⟨w.heap.size, i + j, none⟩ = false := hfy
            have HST2 : Hid (∀ t, t = c + a.getD i 0 * b.getD j 0 + y → MulI a b w.heap.size 112 i (j + 1) (t / 4294967296) ((wr.drewN nq).setCell ⟨w.heap.size, i + j, none⟩ (.int .u32 ((t % 4294967296 : Nat) : Int)))) := Lib.hid (fun t ht => HST.out t ht)
            have hb2 : Below w.heap.size w (wr.drewN nq) := below_drewN hbw nq
            clear hcy hfy HST hI hbw hca hcb w1 w2 w3
            generalize wr.drewN nq = w2 at hcy2 hfy2 HST2 hb2 ⊢
            go_wp2_with fail
            have e1 : ((c : Int) + ((P : Int) + y)) % 4294967296 = (((c + P + y) % 4294967296 : Nat) : Int) := by omega
            have e2 : ((c : Int) + ((P : Int) + y)) / 4294967296 = (((c + P + y) / 4294967296 : Nat) : Int) := by omega
            rw [e1, e2]
            refine ⟨⟨j + 1, (c + P + y) / 4294967296, by omega, by go_num, rfl, by omega, Lib.hid (HST2.out _ (by rw [HX.out, HZ.out, HP.out])), hb2.setCell (p := ⟨w.heap.size, i + j, none⟩) (Nat.le_refl _) _⟩, ?_⟩
            simp [intOf] <;> omega
          · obtain rfl : j = K := by omega
            have hlast := hI.out
            rw [← HK.out] at hlast
            obtain ⟨⟨cv, hc1⟩, hc2, hO2⟩ := hlast.last (by have := HL.out; omega) (by have := HK.out; omega) hc
            rw [HK.out] at hc1 hc2 hO2
            have HO2 := Lib.hid hO2
            clear hlast hO2 hI
            have w4 : i + j < L + j := by omega
            go_wp2_with fail
            have e1 : ((c : Nat) : Int) % 4294967296 = (c : Nat) := by omega
            try rw [e1]
            go_roundw
            case rel => exact ⟨i + 1, by omega, by go_num, HO2, hbw.setCell (p := ⟨w.heap.size, i + j, none⟩) (Nat.le_refl _) _⟩
            case measure => simp [intOf] <;> omega
      · obtain rfl : i = L := by omega
        obtain ⟨R, r1, r2, r3, r4, -⟩ := hO.out
        rw [List.take_of_length_le (by rw [HL.out]; exact Nat.le_refl _)] at r4
        have hv := wds_block (D := fun k => w.heap.size ≤ k) r3 (Nat.le_refl _)
        rw [r1, HL.out, HK.out] at hv
        have HR := Lib.hid r1
        rw [HL.out, HK.out] at HR
        have HR4 := Lib.hid r4
        have HV := Lib.hid hv
        clear r1 r3 r4 hv hO
        go_wp2_with fail
        refine (btrim_any _ _ R _ HV.out (by have := HR.out; omega)).mono ?_
        rintro e w2 ⟨⟨v, rfl, hv2⟩, rfl⟩
        go_wp2_with fail
        go_ret
        rw [trim_words r2, HR4.out] at hv2
        exact ⟨⟨v, rfl, hv2⟩, hbw⟩
end Go.Proofs.YtmklodgcbldndaaDoor
namespace Go.Proofs.YtmklodgcbldndaaDoor
open Go.RowKit Go.Proofs

set_option maxRecDepth 100000
/-- A big number behind a pointer: its sign, its words. -/
structure BigAt (w : World) (p : Nat) (n : Int) : Prop where
  c0 : w.cell? ⟨p, 0, none⟩ = some (.bool (decide (n < 0)))
  ex : ∃ v, w.cell? ⟨p, 1, none⟩ = some v ∧ Wds All w v (wordsOf n.natAbs)
theorem BigAt.below {w w' : World} {p : Nat} {n : Int} (h : BigAt w p n) (hb : Below w.heap.size w w') : BigAt w' p n := by
  obtain ⟨v, h1, h2⟩ := h.ex
  exact ⟨cell_keep h.c0 hb, v, cell_keep h1 hb, h2.below hb⟩
theorem byte_row {w : World} {base : Nat} {E : TypeId} {v : Value} {l : List UInt8} (h : w.ownsRow base E 1 v l.length (Lib.byteCells l)) (h0 : 1 ≤ l.length) : ∃ g cap, v = .slice (some ⟨g, 0, none⟩) l.length cap ∧ base ≤ g ∧ l.length ≤ cap ∧ (∀ i x, l[i]? = some x → w.cell? ⟨g, i, none⟩ = some (.int .u8 (x.toNat : Int))) ∧ (∀ j, w.frozen? ⟨g, j, none⟩ = false) := by
  have hcells := fun g => h.cells (g := g)
  rcases h.2 with ⟨rfl, h1⟩ | ⟨g, cap, cur, rfl, hg, hb, hn, _⟩
  · omega
  · refine ⟨g, cap, rfl, hg, hn, fun i x hi => ?_, fun j => Lib.frozen_of_heap hb j⟩
    have := hcells g rfl i (.int .u8 (x.toNat : Int)) (by simp [Lib.byteCells, hi])
    rw [Go.WideShapes.add_plain, Nat.zero_add] at this
    exact this
theorem rt_u8 : RowType Tryd.prog 59 5 1 1 := .mk' (z := .int .u8 0) Tryd.underlying59 (by kernel_rfl) rfl (by decide)
theorem u8_small {r : Nat} (h : r < 10) : ((UInt8.ofNat (48 + r)).toNat : Int) = 48 + (r : Int) := by
  rw [UInt8.toNat_ofNat']
  omega
set_option maxHeartbeats 4000000 in
theorem bigText_any (p : Nat) (n0 : Int) (w : World) (h : BigAt w p n0) (hn : n0.natAbs < 100000000000000000000) :
    Calls Tryd.prog 51 #[.pointer (some ⟨p, 0, none⟩), .int .i64 10] w fun e w' => e = .returned (.string ⟨(Lib.itoa n0).toArray⟩) ∧ Below w.heap.size w w' := by
  obtain ⟨c0, v, c1, hv⟩ := h
  obtain ⟨NG, hNG⟩ : ∃ b, decide (n0 < 0) = b := ⟨_, rfl⟩
  rw [hNG] at c0
  obtain ⟨N, hN⟩ : ∃ N, n0.natAbs = N := ⟨_, rfl⟩
  rw [hN] at hv hn
  have hlen : (wordsOf N).length ≤ 3 := wordsOf_len (by omega)
  obtain ⟨A, cap, rfl, hc, hz, h3⟩ := id hv
  have HV := Lib.hid hv
  clear h3 hv
  by_cases h0 : N = 0
  · have hn0 : n0 = 0 := by omega
    have hl0 : (wordsOf N).length = 0 := by rw [wordsOf_nil.2 h0]; rfl
    rw [hl0] at c1
    subst hn0
    clear hl0 h0 hN hNG hlen hc hz HV
    go_enter Tryd.func51, Tryd.ntmps51
    go_wp2_with fail
    go_ret
    exact ⟨by rw [itoa_zero]; rfl, Below.refl _ _⟩
  · have hpos : 0 < (wordsOf N).length := List.length_pos_iff.2 (fun e => h0 (wordsOf_nil.1 e))
    obtain ⟨L, hL⟩ : ∃ L, (wordsOf N).length = L := ⟨_, rfl⟩
    rw [hL] at c1 hpos hlen
    have HL := Lib.hid hL
    have HNN := Lib.hid hN
    have HNG := Lib.hid hNG
    have H0 := Lib.hid h0
    have hdl : (digs N).length ≤ 20 := digs_len (by omega)
    have HDL := Lib.hid hdl
    rw [hL] at HV
    clear hL hN hNG h0 hdl hc hz
    go_enter Tryd.func51, Tryd.ntmps51
    go_wp2_with fail
    refine (twin_any All _ (wordsOf N) w HV.out (by have := HL.out; omega)).mono ?_
    rintro e w1 ⟨⟨v1, rfl, hv1⟩, hb1⟩
    have k0 := cell_keep c0 hb1
    have hszw : w.heap.size ≤ w1.heap.size := hb1.size
    go_wp2_with fail
    go_loopg [5, 6] N (fun gm bv av wr => ∃ (m : Nat) (dg : List UInt8), m ≤ gm ∧ m ≤ N ∧ Hid (digs N = dg ++ digs m) ∧ wr.ownsRow w1.heap.size 5 1 bv dg.length (Lib.byteCells dg) ∧ Wds (fun k => some k ≠ bv.ownBlock) wr av (wordsOf m) ∧ wr.cell? ⟨p, 0, none⟩ = some (.bool NG) ∧ Below w.heap.size w wr ∧ w1.heap.size ≤ wr.heap.size)
    case atStart => exact ⟨N, [], Nat.le_refl _, Nat.le_refl _, rfl, World.ownsRow_nil _ _ _ _, hv1.keep (Same.refl _ _) (fun b _ _ => by simp [Value.ownBlock]), k0, hb1, Nat.le_refl _⟩
    case round =>
      clear k0 hv1
      obtain ⟨m, dg, hmg, hmN, hdg, hown, hav, k0, hbw, hsz⟩ := hrel
      have HAV := Lib.hid hav
      obtain ⟨A2, c2, rfl, hc2, hz2, -⟩ := hav
      have hdgl : dg.length ≤ 20 := by have := HDL.out; rw [hdg.out, List.length_append] at this; omega
      by_cases hm : m = 0
      · have hw0 : (wordsOf m).length = 0 := by rw [wordsOf_nil.2 hm]; rfl
        rw [hw0]
        have hdgN : digs N = dg := by have := hdg.out; rw [hm] at this; rw [this]; simp [digs]
        have HDG := Lib.hid hdgN
        have hdg1 : 1 ≤ dg.length := by rw [← hdgN, show digs N = UInt8.ofNat (48 + N % 10) :: digs (N / 10) by rw [digs, dif_neg H0.out]]; simp
        obtain ⟨A3, c3, rfl⟩ := own_form hown
        clear hw0 hdg hm hc2 hz2 HAV hdgN
        cases NG with
        | false =>
          have HANS : Hid (Lib.itoa n0 = dg.reverse) := by
            have h1 := of_decide_eq_false HNG.out
            show _ = _
            rw [← itoa_text n0 (by have := HNN.out; have := H0.out; omega), if_neg h1, HNN.out, HDG.out]
          have hFL : 1 ≤ dg.length ∧ dg.length ≤ 25 := ⟨hdg1, by omega⟩
          have hown' := hown
          obtain ⟨g, cap, hsl, hg0, hcap, hcells, hfz⟩ := byte_row hown' hFL.1
          obtain ⟨hA3, hc3⟩ : A3 = some ⟨g, 0, none⟩ ∧ c3 = cap := by injection hsl with e1 _ e3; exact ⟨e1, e3⟩
          subst hA3
          subst hc3
          have hg0 : w.heap.size ≤ g := Nat.le_trans hszw hg0
          have HFZ := Lib.hid hfz
          have HCL := Lib.hid hcells
          clear hown hown' hfz hcells hsl
          obtain ⟨n, hn⟩ : ∃ n, dg.length = n := ⟨_, rfl⟩
          have HN := Lib.hid hn
          rw [hn]
          have hn25 : 1 ≤ n ∧ n ≤ 25 := by rw [← hn]; exact hFL
          obtain ⟨hn1, hn2⟩ := hn25
          clear hn
          go_wp2_with fail
          go_loopw [8, 9] (fun i j wr => ∃ k : Nat, 2 * k ≤ n + 1 ∧ i = .int .i64 k ∧ j = .int .i64 ((n : Int) - 1 - k) ∧ Hid (∀ m : Nat, m < n → wr.cell? ⟨g, m, none⟩ = some (.int .u8 ((if m < k ∨ n ≤ m + k then (dg.getD (n - 1 - m) 0) else dg.getD m 0).toNat : Int))) ∧ Hid (∀ j, wr.frozen? ⟨g, j, none⟩ = false) ∧ Below w.heap.size w wr) (fun _ j _ => ((intOf j) + 1).toNat)
          case atStart =>
            refine ⟨0, by omega, rfl, by first | (simp; done) | (congr 1; have := HN.out; simp at this; omega), fun m hm => ?_, HFZ, hbw⟩
            have hm' : m < dg.length := by have := HN.out; omega
            rw [if_neg (by omega)]
            have := HCL.out m dg[m] (List.getElem?_eq_getElem hm')
            rw [this]
            rw [List.getD, List.getElem?_eq_getElem hm']
            rfl
          case round =>
            clear HFZ HCL hbw
            obtain ⟨k, hk, rfl, rfl, hcl, hfz, hbw⟩ := hrel
            by_cases hlt : 2 * k + 1 < n
            · obtain ⟨J, hJ⟩ : ∃ J : Nat, J + k + 1 = n := ⟨n - 1 - k, by omega⟩
              rw [show ((n : Int) - 1 - k) = (J : Int) by omega]
              have hkJ : (k : Int) < (J : Int) := by omega
              have q0 := hcl.out k (by omega)
              rw [if_neg (by omega)] at q0
              have q1 := hcl.out J (by omega)
              rw [if_neg (by omega)] at q1
              obtain ⟨xk, hxk⟩ : ∃ x, dg.getD k 0 = x := ⟨_, rfl⟩
              obtain ⟨xJ, hxJ⟩ : ∃ x, dg.getD J 0 = x := ⟨_, rfl⟩
              rw [hxk] at q0
              rw [hxJ] at q1
              have HXK := Lib.hid hxk
              have HXJ := Lib.hid hxJ
              have q2 := hfz.out k
              have q3 := hfz.out J
              have hne : (⟨g, k, none⟩ : Addr) ≠ ⟨g, J, none⟩ := fun e => by injection e with _ e; omega
              have q5 : (wr.setCell ⟨g, k, none⟩ (.int .u8 (xJ.toNat : Int))).cell? ⟨g, J, none⟩ = some (.int .u8 (xJ.toNat : Int)) := (World.cell?_setCell_other _ _ _ _ hne).trans q1
              have hJn : J < n := by omega
              have HJ := Lib.hid hJ
              clear hJ hxk hxJ
              go_wp2_with fail
              go_roundw
              case rel =>
                have hJ := HJ.out
                refine ⟨k + 1, by omega, by go_num, by congr 1; omega, fun m hm => ?_, fun j => by rw [World.frozen?_setCell, World.frozen?_setCell]; exact hfz.out j, (hbw.setCell (p := ⟨g, k, none⟩) hg0 _).setCell (p := ⟨g, J, none⟩) hg0 _⟩
                by_cases h1 : m = J
                · subst h1
                  rw [World.cell?_setCell_same' _ _ _ (by rw [q5]; rfl), if_pos (by omega), show n - 1 - m = k by omega, HXK.out]
                · rw [World.cell?_setCell_other _ _ _ _ (fun e => h1 (by injection e with _ e; exact e.symm))]
                  by_cases h2 : m = k
                  · subst h2
                    rw [World.cell?_setCell_same' _ _ _ (by rw [q0]; rfl), if_pos (by omega), show n - 1 - m = J by omega, HXJ.out]
                  · rw [World.cell?_setCell_other _ _ _ _ (fun e => h2 (by injection e with _ e; exact e.symm)), hcl.out m hm]
                    by_cases h3 : m < k ∨ n ≤ m + k
                    · rw [if_pos h3, if_pos (by omega)]
                    · rw [if_neg h3, if_neg (by omega)]
              case measure => simp [intOf] <;> omega
            · have hkJ : ¬ (k : Int) < (n : Int) - 1 - k := by omega
              have hrl : dg.reverse.length = n := by rw [List.length_reverse]; exact HN.out
              have hconv := run_convert_bytes_back (P := Tryd.prog) wr 59 9 5 ⟨g, 0, none⟩ c3 dg.reverse Tryd.underlying59 Tryd.underlying5 Tryd.underlying9 (fun j hj => by
                rw [Go.WideShapes.add_plain, Nat.zero_add]
                have hjn : j < n := by omega
                rw [hcl.out j hjn]
                have hfl := HN.out
                have e : dg.reverse[j] = dg.getD (n - 1 - j) 0 := by
                  rw [List.getElem_reverse]
                  simp only [hfl, List.getD, List.getElem?_eq_getElem (show n - 1 - j < dg.length by omega), Option.getD_some]
                rw [e]
                by_cases h3 : j < k ∨ n ≤ j + k
                · rw [if_pos h3]
                · rw [if_neg h3, show n - 1 - j = j by omega])
              rw [hrl] at hconv
              clear hcl hfz hrl
              go_wp2_with fail
              go_ret
              exact ⟨by rw [HANS.out]; first | rfl | (rw [List.reverse_append]; rfl), hbw⟩
        | true =>
          have HANS : Hid (Lib.itoa n0 = (dg ++ [45]).reverse) := by
            have h1 := of_decide_eq_true HNG.out
            show _ = _
            rw [← itoa_text n0 (by have := HNN.out; have := H0.out; omega), if_pos h1, HNN.out, HDG.out]
          have hFL : 1 ≤ (dg ++ [45]).length ∧ (dg ++ [45]).length ≤ 25 := by rw [List.length_append]; simp; omega
          go_wp2_with (at_builtin; go_must (refine wpList_app1 rt_u8 wr (.int .u8 45) rfl (.tmp 53) (.tmp 54) rfl w1.heap.size (.slice A3 dg.length c3) dg.length (Lib.byteCells dg) rfl hown rfl rfl (by omega) (by omega) hsz ?_; intro v4 w4 o1 o2 o3 o4; obtain ⟨A4, c4, rfl⟩ := own_form o1))
          have hlap : dg.length + 1 = (dg ++ [45]).length := by rw [List.length_append]; rfl
          have hown' : w4.ownsRow w1.heap.size 5 1 (.slice A4 (dg ++ [45]).length c4) (dg ++ [45]).length (Lib.byteCells (dg ++ [45])) := by
            rw [← hlap]
            have e : Lib.byteCells (dg ++ [45]) = Lib.byteCells dg ++ [.int .u8 45] := by simp [Lib.byteCells]
            rw [e]
            exact o1
          have hbw4 : Below w.heap.size w w4 := hbw.trans (o4.mono hszw)
          rw [hlap]
          clear o1 o2 o3 o4 hbw k0 hlap hsz
          obtain ⟨g, cap, hsl, hg0, hcap, hcells, hfz⟩ := byte_row hown' hFL.1
          obtain ⟨hA3, hc3⟩ : A4 = some ⟨g, 0, none⟩ ∧ c4 = cap := by injection hsl with e1 _ e3; exact ⟨e1, e3⟩
          subst hA3
          subst hc3
          have hg0 : w.heap.size ≤ g := Nat.le_trans hszw hg0
          have HFZ := Lib.hid hfz
          have HCL := Lib.hid hcells
          clear hown hown' hfz hcells hsl
          obtain ⟨n, hn⟩ : ∃ n, (dg ++ [45]).length = n := ⟨_, rfl⟩
          have HN := Lib.hid hn
          rw [hn]
          have hn25 : 1 ≤ n ∧ n ≤ 25 := by rw [← hn]; exact hFL
          obtain ⟨hn1, hn2⟩ := hn25
          clear hn
          go_wp2_with fail
          go_loopw [8, 9] (fun i j wr => ∃ k : Nat, 2 * k ≤ n + 1 ∧ i = .int .i64 k ∧ j = .int .i64 ((n : Int) - 1 - k) ∧ Hid (∀ m : Nat, m < n → wr.cell? ⟨g, m, none⟩ = some (.int .u8 ((if m < k ∨ n ≤ m + k then ((dg ++ [45]).getD (n - 1 - m) 0) else (dg ++ [45]).getD m 0).toNat : Int))) ∧ Hid (∀ j, wr.frozen? ⟨g, j, none⟩ = false) ∧ Below w.heap.size w wr) (fun _ j _ => ((intOf j) + 1).toNat)
          case atStart =>
            refine ⟨0, by omega, rfl, by first | (simp; done) | (congr 1; have := HN.out; simp at this; omega), fun m hm => ?_, HFZ, hbw4⟩
            have hm' : m < (dg ++ [45]).length := by have := HN.out; omega
            rw [if_neg (by omega)]
            have := HCL.out m (dg ++ [45])[m] (List.getElem?_eq_getElem hm')
            rw [this]
            rw [List.getD, List.getElem?_eq_getElem hm']
            rfl
          case round =>
            clear HFZ HCL hbw4
            obtain ⟨k, hk, rfl, rfl, hcl, hfz, hbw⟩ := hrel
            by_cases hlt : 2 * k + 1 < n
            · obtain ⟨J, hJ⟩ : ∃ J : Nat, J + k + 1 = n := ⟨n - 1 - k, by omega⟩
              rw [show ((n : Int) - 1 - k) = (J : Int) by omega]
              have hkJ : (k : Int) < (J : Int) := by omega
              have q0 := hcl.out k (by omega)
              rw [if_neg (by omega)] at q0
              have q1 := hcl.out J (by omega)
              rw [if_neg (by omega)] at q1
              obtain ⟨xk, hxk⟩ : ∃ x, (dg ++ [45]).getD k 0 = x := ⟨_, rfl⟩
              obtain ⟨xJ, hxJ⟩ : ∃ x, (dg ++ [45]).getD J 0 = x := ⟨_, rfl⟩
              rw [hxk] at q0
              rw [hxJ] at q1
              have HXK := Lib.hid hxk
              have HXJ := Lib.hid hxJ
              have q2 := hfz.out k
              have q3 := hfz.out J
              have hne : (⟨g, k, none⟩ : Addr) ≠ ⟨g, J, none⟩ := fun e => by injection e with _ e; omega
              have q5 : (wr.setCell ⟨g, k, none⟩ (.int .u8 (xJ.toNat : Int))).cell? ⟨g, J, none⟩ = some (.int .u8 (xJ.toNat : Int)) := (World.cell?_setCell_other _ _ _ _ hne).trans q1
              have hJn : J < n := by omega
              have HJ := Lib.hid hJ
              clear hJ hxk hxJ
              go_wp2_with fail
              go_roundw
              case rel =>
                have hJ := HJ.out
                refine ⟨k + 1, by omega, by go_num, by congr 1; omega, fun m hm => ?_, fun j => by rw [World.frozen?_setCell, World.frozen?_setCell]; exact hfz.out j, (hbw.setCell (p := ⟨g, k, none⟩) hg0 _).setCell (p := ⟨g, J, none⟩) hg0 _⟩
                by_cases h1 : m = J
                · subst h1
                  rw [World.cell?_setCell_same' _ _ _ (by rw [q5]; rfl), if_pos (by omega), show n - 1 - m = k by omega, HXK.out]
                · rw [World.cell?_setCell_other _ _ _ _ (fun e => h1 (by injection e with _ e; exact e.symm))]
                  by_cases h2 : m = k
                  · subst h2
                    rw [World.cell?_setCell_same' _ _ _ (by rw [q0]; rfl), if_pos (by omega), show n - 1 - m = J by omega, HXJ.out]
                  · rw [World.cell?_setCell_other _ _ _ _ (fun e => h2 (by injection e with _ e; exact e.symm)), hcl.out m hm]
                    by_cases h3 : m < k ∨ n ≤ m + k
                    · rw [if_pos h3, if_pos (by omega)]
                    · rw [if_neg h3, if_neg (by omega)]
              case measure => simp [intOf] <;> omega
            · have hkJ : ¬ (k : Int) < (n : Int) - 1 - k := by omega
              have hrl : (dg ++ [45]).reverse.length = n := by rw [List.length_reverse]; exact HN.out
              have hconv := run_convert_bytes_back (P := Tryd.prog) wr 59 9 5 ⟨g, 0, none⟩ c4 (dg ++ [45]).reverse Tryd.underlying59 Tryd.underlying5 Tryd.underlying9 (fun j hj => by
                rw [Go.WideShapes.add_plain, Nat.zero_add]
                have hjn : j < n := by omega
                rw [hcl.out j hjn]
                have hfl := HN.out
                have e : (dg ++ [45]).reverse[j] = (dg ++ [45]).getD (n - 1 - j) 0 := by
                  rw [List.getElem_reverse]
                  simp only [hfl, List.getD, List.getElem?_eq_getElem (show n - 1 - j < (dg ++ [45]).length by omega), Option.getD_some]
                rw [e]
                by_cases h3 : j < k ∨ n ≤ j + k
                · rw [if_pos h3]
                · rw [if_neg h3, show n - 1 - j = j by omega])
              rw [hrl] at hconv
              clear hcl hfz hrl
              go_wp2_with fail
              go_ret
              exact ⟨by rw [HANS.out]; first | rfl | (rw [List.reverse_append]; rfl), hbw⟩
      · have hwl : 0 < (wordsOf m).length := List.length_pos_iff.2 (fun e => hm (wordsOf_nil.1 e))
        have hwl2 : (wordsOf m).length ≤ 3 := wordsOf_len (by omega)
        obtain ⟨M, hM⟩ : ∃ M, (wordsOf m).length = M := ⟨_, rfl⟩
        have HM := Lib.hid hM
        have hdg' := hdg.out
        rw [show digs m = UInt8.ofNat (48 + m % 10) :: digs (m / 10) by rw [digs, dif_neg hm]] at hdg'
        have hdl2 : dg.length + 1 ≤ 20 := by have := HDL.out; rw [hdg', List.length_append, List.length_cons] at this; omega
        obtain ⟨A3, c3, rfl⟩ := own_form hown
        have hsm := bsmall_any _ _ (wordsOf m) 10 wr HAV.out (by omega) hwl (by decide) (by decide) (wordsOf_ws m)
        obtain ⟨R, hR⟩ : ∃ R, m % 10 = R := ⟨_, rfl⟩
        have hR10 : R < 10 := by rw [← hR]; exact Nat.mod_lt _ (by decide)
        have hRZ : (R : Int) < 10 := by omega
        have HRR := Lib.hid hR
        rw [hR] at hdg'
        rw [hM, wordsOf_val, hR] at hsm
        have HSM := Lib.hid hsm
        have HDD := Lib.hid hdg'
        rw [hM] at hwl hwl2 ⊢
        clear hsm hR hdg'
        have HMZ := Lib.hid hm
        clear hM hdg hc2 hz2 hm
        go_wp2_with fail
        refine HSM.out.mono ?_
        rintro e w2 ⟨⟨v2, rfl, hv2⟩, hb2⟩
        have k2 := cell_keep k0 hb2
        have hown2 := hown.kept (grown_below hb2 none) (by cases (Value.slice A3 dg.length c3).ownBlock <;> simp)
        have HOL : Hid (∀ k, (Value.slice A3 dg.length c3).ownBlock = some k → k < wr.heap.size) := Lib.hid (fun k hk => (hown.lt k hk).2)
        have hsz2 : w1.heap.size ≤ w2.heap.size := Nat.le_trans hsz hb2.size
        have hbw2 := hbw.trans (hb2.mono hbw.size)
        have hrs := hb2.size
        clear hwl hwl2 k0 hown hbw hb2 HSM HAV
        go_wp2_with (at_builtin; go_must (refine wpList_app1 rt_u8 w2 (.int .u8 (48 + (R : Int))) rfl (.tmp 36) (.tmp 40) rfl w1.heap.size (.slice A3 dg.length c3) dg.length (Lib.byteCells dg) rfl hown2 rfl rfl (by omega) (by omega) hsz2 ?_; intro v3 w3 o1 o2 o3 o4))
        go_roundg (m / 10)
        case rel =>
          have hm0 := HMZ.out
          have hsz3 : w2.heap.size + 1 ≤ w3.heap.size := Nat.le_trans (Nat.le_of_eq (Array.size_push _).symm) o2.size
          refine ⟨m / 10, dg ++ [UInt8.ofNat (48 + R)], Nat.le_refl _, by omega, Lib.hid (by rw [HDD.out]; simp), ?_, ?_, cell_keep c0 (hbw2.trans (o4.mono hszw)), hbw2.trans (o4.mono hszw), by omega⟩
          · have e : Lib.byteCells (dg ++ [UInt8.ofNat (48 + R)]) = Lib.byteCells dg ++ [.int .u8 (48 + (R : Int))] := by rw [← u8_small hR10]; simp [Lib.byteCells]
            rw [e, List.length_append]
            exact o1
          · refine hv2.keep (Same.trans (Same.below ((Below.refl _ _).alloc (Nat.le_refl _) _)) (by simp) (Same.grown o2 (fun b hD e => by have := HOL.out b e.symm; omega))) (fun b hD hl e => ?_)
            rcases o3 with h | h
            · have := HOL.out b (by rw [← h]; exact e.symm)
              omega
            · rw [h] at e
              injection e with e
              omega
        case measure => have := HMZ.out; omega
theorem grown_in2 {w wr : World} {p : Nat} (h : w.grownBy wr (some p)) (u v : Value) : w.grownBy ((wr.setCell ⟨p, 1, none⟩ u).setCell ⟨p, 0, none⟩ v) (some p) := by
  refine ⟨h.os, h.tape, h.output, by rw [World.size_setCell, World.size_setCell]; exact h.size, fun b hl hb => ?_⟩
  rw [Below.heap_setCell _ _ v b (fun e => hb (by rw [e])), Below.heap_setCell _ _ u b (fun e => hb (by rw [e]))]
  exact h.block b hl hb
set_option maxHeartbeats 1000000 in
theorem give_any (p : Nat) (neg : Bool) (v x0 x1 : Value) (l : List Nat) (w : World) (hv : Wds All w v l) (c0 : w.cell? ⟨p, 0, none⟩ = some x0) (c1 : w.cell? ⟨p, 1, none⟩ = some x1) (hf : ∀ j, w.frozen? ⟨p, j, none⟩ = false) :
    Calls Tryd.prog 70 #[.pointer (some ⟨p, 0, none⟩), .bool neg, v] w fun e w' => e = .returned (.pointer (some ⟨p, 0, none⟩)) ∧ w' = (w.setCell ⟨p, 1, none⟩ v).setCell ⟨p, 0, none⟩ (.bool (neg && decide (0 < l.length))) := by
  obtain ⟨A, cap, rfl, -, -, -⟩ := hv
  have f0 := hf 0
  have f1 := hf 1
  have f0' : (w.setCell ⟨p, 1, none⟩ (.slice A l.length cap)).frozen? ⟨p, 0, none⟩ = false := by rw [World.frozen?_setCell]; exact f0
  have c0' : (w.setCell ⟨p, 1, none⟩ (.slice A l.length cap)).cell? ⟨p, 0, none⟩ = some x0 := by rw [cell_ne (by decide)]; exact c0
  obtain ⟨n, hn⟩ : ∃ n, l.length = n := ⟨_, rfl⟩
  rw [hn] at *
  clear hf hn
  cases neg with
  | false =>
    go_enter Tryd.func70, Tryd.ntmps70
    go_wp2_with fail
    go_ret
    exact ⟨rfl, rfl⟩
  | true =>
    by_cases h0 : 0 < n
    · have h0' : (0 : Int) < (n : Int) := by omega
      have hd : decide (0 < n) = true := by simpa using h0
      have HD := Lib.hid hd
      clear hd
      go_enter Tryd.func70, Tryd.ntmps70
      go_wp2_with fail
      go_ret
      exact ⟨rfl, by rw [HD.out]; rfl⟩
    · obtain rfl : n = 0 := by omega
      go_enter Tryd.func70, Tryd.ntmps70
      go_wp2_with fail
      go_ret
      exact ⟨rfl, rfl⟩
set_option maxHeartbeats 1000000 in
theorem setInt64_any (p : Nat) (x : Int) (x0 x1 : Value) (w : World) (h1 : -9223372036854775808 ≤ x) (h2 : x ≤ 9223372036854775807) (c0 : w.cell? ⟨p, 0, none⟩ = some x0) (c1 : w.cell? ⟨p, 1, none⟩ = some x1) (hf : ∀ j, w.frozen? ⟨p, j, none⟩ = false) :
    Calls Tryd.prog 50 #[.pointer (some ⟨p, 0, none⟩), .int .i64 x] w fun e w' => e = .returned (.pointer (some ⟨p, 0, none⟩)) ∧ BigAt w' p x ∧ w.grownBy w' (some p) := by
  by_cases h0 : x < 0
  · go_enter Tryd.func50, Tryd.ntmps50
    go_wp2_with fail
    have hwr : IntKind.u64.wrap (-IntKind.u64.wrap x) = (x.natAbs : Int) := by simp [IntKind.wrap, IntKind.bits, IntKind.signed]; omega
    rw [hwr]
    clear hwr
    refine (words_any x.natAbs w (by omega)).mono ?_
    rintro e w1 ⟨⟨v, rfl, hv⟩, hb⟩
    have hpl := cell_lt c0
    have k0 := cell_keep c0 hb
    have k1 := cell_keep c1 hb
    have kf : ∀ j, w1.frozen? ⟨p, j, none⟩ = false := fun j => (hb.frozen (p := ⟨p, j, none⟩) hpl).trans (hf j)
    clear c0 c1 hf
    go_wp2_with fail
    refine (give_any p true v x0 x1 (wordsOf x.natAbs) w1 (hv.keep (Same.refl _ _) (fun _ _ _ => trivial)) k0 k1 kf).mono ?_
    rintro e w2 ⟨rfl, rfl⟩
    go_wp2_with fail
    have hgr : w.grownBy ((w1.setCell ⟨p, 1, none⟩ v).setCell ⟨p, 0, none⟩ (.bool (true && decide (0 < (wordsOf x.natAbs).length)))) (some p) := grown_in2 (grown_below hb _) _ _
    have hvk := hv.keep (D' := fun k => w.heap.size ≤ k) (Same.grown (grown_in2 (grown_below (Below.refl _ _) (some p)) v (.bool (true && decide (0 < (wordsOf x.natAbs).length)))) (fun b hb e => by injection e with e; omega)) (fun _ h _ => h)
    go_ret
    have hpos : 0 < (wordsOf x.natAbs).length := List.length_pos_iff.2 (fun e => by have := wordsOf_nil.1 e; omega)
    exact ⟨rfl, ⟨by rw [cell_eq (x := x0) (by rw [cell_ne (by decide)]; exact k0)]; simp [hpos, h0], v, by rw [cell_ne (by decide), cell_eq k1], hvk.keep (Same.refl _ _) (fun _ _ _ => trivial)⟩, hgr⟩
  · go_enter Tryd.func50, Tryd.ntmps50
    go_wp2_with fail
    have hwr : x = (x.natAbs : Int) := by omega
    rw [hwr]
    clear hwr
    refine (words_any x.natAbs w (by omega)).mono ?_
    rintro e w1 ⟨⟨v, rfl, hv⟩, hb⟩
    have hpl := cell_lt c0
    have k0 := cell_keep c0 hb
    have k1 := cell_keep c1 hb
    have kf : ∀ j, w1.frozen? ⟨p, j, none⟩ = false := fun j => (hb.frozen (p := ⟨p, j, none⟩) hpl).trans (hf j)
    clear c0 c1 hf
    go_wp2_with fail
    refine (give_any p false v x0 x1 (wordsOf x.natAbs) w1 (hv.keep (Same.refl _ _) (fun _ _ _ => trivial)) k0 k1 kf).mono ?_
    rintro e w2 ⟨rfl, rfl⟩
    go_wp2_with fail
    have hgr : w.grownBy ((w1.setCell ⟨p, 1, none⟩ v).setCell ⟨p, 0, none⟩ (.bool (false && decide (0 < (wordsOf x.natAbs).length)))) (some p) := grown_in2 (grown_below hb _) _ _
    have hvk := hv.keep (D' := fun k => w.heap.size ≤ k) (Same.grown (grown_in2 (grown_below (Below.refl _ _) (some p)) v (.bool (false && decide (0 < (wordsOf x.natAbs).length)))) (fun b hb e => by injection e with e; omega)) (fun _ h _ => h)
    go_ret
    exact ⟨rfl, ⟨by rw [cell_eq (x := x0) (by rw [cell_ne (by decide)]; exact k0)]; simp [h0], v, by rw [cell_ne (by decide), cell_eq k1], hvk.keep (Same.refl _ _) (fun _ _ _ => trivial)⟩, hgr⟩
set_option maxHeartbeats 1000000 in
theorem newInt_any (x : Int) (w : World) (h1 : -9223372036854775808 ≤ x) (h2 : x ≤ 9223372036854775807) :
    Calls Tryd.prog 29 #[.int .i64 x] w fun e w' => (∃ p, e = .returned (.pointer (some ⟨p, 0, none⟩)) ∧ BigAt w' p x) ∧ Below w.heap.size w w' := by
  go_enter Tryd.func29, Tryd.ntmps29
  go_wp2_with fail
  refine (setInt64_any w.heap.size x (.bool false) (.slice none 0 0) _ h1 h2 (by simp [go_sem]) (by simp [go_sem]) (fun j => by simp [go_sem])).mono ?_
  rintro e w1 ⟨rfl, hp, hg⟩
  go_wp2_with fail
  go_ret
  exact ⟨⟨_, rfl, hp⟩, (Below.refl _ _).alloc (Nat.le_refl _) _ |>.grown hg (Nat.le_trans (Nat.le_succ _) (Nat.le_of_eq (Array.size_push _).symm)) (fun k hk => by injection hk with hk; omega)⟩
set_option maxHeartbeats 1000000 in
theorem bigString_any (p : Nat) (n0 : Int) (w : World) (h : BigAt w p n0) (hn : n0.natAbs < 100000000000000000000) :
    Calls Tryd.prog 30 #[.pointer (some ⟨p, 0, none⟩)] w fun e w' => e = .returned (.string ⟨(Lib.itoa n0).toArray⟩) ∧ Below w.heap.size w w' := by
  go_enter Tryd.func30, Tryd.ntmps30
  go_wp2_with fail
  refine (bigText_any p n0 w h hn).mono ?_
  rintro e w1 ⟨rfl, hb⟩
  go_wp2_with fail
  go_ret
  exact ⟨rfl, hb⟩
end Go.Proofs.YtmklodgcbldndaaDoor
