/-
  The words of big numbers in memory: trim, words, twin, small; a big number behind a pointer.
  Big numbers: NewInt, Text and String at numbers of 64 bits: the decimal digits.
  The reference's text of a value.
-/
import Derived.Test.YtmklodgcbldndaaDoorM4
import Derived.Laws.IdiomStrings
namespace Go.Proofs.YtmklodgcbldndaaDoor
open Go.RowKit Go.Proofs

set_option maxRecDepth 100000
/-- A slice of words. -/
def Wds (D : Blocks) (w : World) (v : Value) (l : List Nat) : Prop := ∃ A cap, v = .slice A l.length cap ∧ l.length ≤ cap ∧ (A = none → cap = 0) ∧ (0 < l.length → ∃ b off, A = some ⟨b, off, none⟩ ∧ D b ∧ ∀ i x, l[i]? = some x → w.cell? ⟨b, off + i, none⟩ = some (.int .u32 (x : Nat)))
theorem Wds.keep {D D' : Blocks} {w w' : World} {v : Value} {l : List Nat} (h : Wds D w v l) (hs : Same D w w') (hD : ∀ b, D b → b < w.heap.size → D' b) : Wds D' w' v l := by
  obtain ⟨A, cap, h1, h2, hz, h3⟩ := h
  refine ⟨A, cap, h1, h2, hz, fun h0 => ?_⟩
  obtain ⟨b, off, e, hd, hr⟩ := h3 h0
  have hl : b < w.heap.size := by
    obtain ⟨s, hs⟩ : ∃ s, l[0]? = some s := ⟨_, List.getElem?_eq_getElem h0⟩
    exact cell_lt (hr 0 s hs)
  exact ⟨b, off, e, hD b hd hl, fun i s hi => hs.cell hd (hr i s hi)⟩
theorem Wds.below {D : Blocks} {w w' : World} {v : Value} {t : List Nat} (h : Wds D w v t) (hb : Below w.heap.size w w') : Wds D w' v t := h.keep (Same.below hb) fun _ h _ => h
theorem Wds.none (D : Blocks) (w : World) : Wds D w (.slice Option.none 0 0) [] := ⟨Option.none, 0, rfl, Nat.le_refl _, fun _ => rfl, fun h => by simp at h⟩
theorem trimW_back {l : List Nat} {k : Nat} {x : Nat} (h : l[k]? = some x) : trimW (l.take (k + 1)) = if x = 0 then trimW (l.take k) else l.take (k + 1) := by
  obtain ⟨h1, h2⟩ := List.getElem?_eq_some_iff.1 h
  rw [List.take_add_one, h]
  exact trimW_snoc _ _
set_option maxHeartbeats 1000000 in
theorem btrim_any (D : Blocks) (v : Value) (l : List Nat) (w : World) (hv : Wds D w v l) (hl : l.length ≤ 1000000) :
    Calls Tryd.prog 99 #[v] w fun e w' => (∃ v', e = .returned v' ∧ Wds D w v' (trimW l)) ∧ w' = w := by
  have HV := Lib.hid hv
  obtain ⟨A, cap, rfl, hc, hz, h3⟩ := hv
  have H3 := Lib.hid h3
  have HZ := Lib.hid hz
  obtain ⟨L, hL⟩ : ∃ L, l.length = L := ⟨_, rfl⟩
  have HL := Lib.hid hL
  rw [hL] at hc hl ⊢
  clear h3 hz hL
  obtain ⟨RES, hR⟩ : ∃ x, trimW l = x := ⟨_, rfl⟩
  have HR := Lib.hid hR
  rw [hR]
  clear hR
  go_enter Tryd.func99, Tryd.ntmps99
  go_wp2_with fail
  go_loop [3] (fun n => ∃ k : Nat, k ≤ L ∧ n = .int .i64 k ∧ Hid (trimW l = trimW (l.take k))) (fun n => (intOf n).toNat)
  case atStart => exact ⟨L, Nat.le_refl _, rfl, by show _ = _; rw [List.take_of_length_le (by have := HL.out; omega)]⟩
  case round =>
    obtain ⟨k, hk, rfl, hs⟩ := hrel
    cases k with
    | zero =>
      have hres : RES = [] := by have := hs.out; rw [HR.out] at this; rw [this]; rfl
      have HRS := Lib.hid hres
      clear hres hs
      go_wp2_with fail
      go_ret
      refine ⟨⟨_, rfl, A, cap, ?_, ?_, HZ.out, ?_⟩, rfl⟩
      · rw [HRS.out]; rfl
      · rw [HRS.out]; exact Nat.zero_le _
      · rw [HRS.out]; intro h; simp at h
    | succ j =>
      obtain ⟨x, hx⟩ : ∃ y, l[j]? = some y := ⟨_, List.getElem?_eq_getElem (by have := HL.out; omega)⟩
      obtain ⟨b, off, rfl, hd, hr⟩ := H3.out (by have := HL.out; omega)
      have hcell := hr j x hx
      have HX := Lib.hid hx
      have HDR := Lib.hid (⟨hd, hr⟩ : D b ∧ ∀ i x, l[i]? = some x → w.cell? ⟨b, off + i, none⟩ = some (.int .u32 (x : Nat)))
      clear hx hr hd
      by_cases h0 : x = 0
      · subst h0
        have hs2 : trimW l = trimW (l.take j) := by rw [hs.out, trimW_back HX.out, if_pos rfl]
        have HS2 := Lib.hid hs2
        clear hs hs2
        go_wp2_with fail
        go_round
        case rel => exact ⟨j, by omega, by go_num, HS2⟩
        case measure => first | (simp [intOf]; done) | (simp [intOf]; omega)
      · have hs2 : RES = l.take (j + 1) := by rw [← HR.out, hs.out, trimW_back HX.out, if_neg h0]
        have HS2 := Lib.hid hs2
        have hx0 : ((x : Int) == 0) = false := by rw [beq_eq_false_iff_ne]; omega
        clear hs hs2 h0
        go_wp2_with fail
        go_ret
        have hlen : RES.length = j + 1 := by rw [HS2.out, List.length_take]; have := HL.out; omega
        refine ⟨⟨_, rfl, some ⟨b, off, none⟩, cap, ?_, by omega, (fun e => by cases e), fun _ => ⟨b, off, rfl, HDR.out.1, fun i y hi => ?_⟩⟩, rfl⟩
        · rw [hlen]; rfl
        · rw [HS2.out] at hi
          exact HDR.out.2 i y (by rw [List.getElem?_take] at hi; split at hi <;> first | exact hi | cases hi)
theorem two_words (n : Nat) (h : n < 18446744073709551616) : trimW [n % 4294967296, n / 4294967296] = wordsOf n := by
  rw [trim_words (fun d hd => by simp at hd; rcases hd with rfl | rfl <;> omega)]
  simp only [wval]
  congr 1
  omega
theorem rt_words : RowType Tryd.prog 82 112 1 4 := .mk' (z := .int .u32 0) Tryd.underlying82 (by kernel_rfl) rfl (by decide)
theorem own_wds {D : Blocks} {w : World} {base : Nat} {E : TypeId} {v : Value} {l : List Nat} (h : w.ownsRow base E 1 v l.length (l.map fun x : Nat => .int .u32 x)) (hD : ∀ b, base ≤ b → D b) : Wds D w v l := by
  have hcells := fun g => h.cells (g := g)
  rcases h.2 with ⟨rfl, h0⟩ | ⟨g, cap, cur, rfl, hg, _, hn, _⟩
  · exact ⟨Option.none, 0, by rw [h0], by omega, fun _ => rfl, fun h1 => by omega⟩
  · refine ⟨_, cap, rfl, hn, (fun e => by cases e), fun _ => ⟨g, 0, rfl, hD g hg, fun i x hi => ?_⟩⟩
    have := hcells g rfl i (.int .u32 (x : Nat)) (by rw [List.getElem?_map, hi]; rfl)
    rw [Go.WideShapes.add_plain] at this
    exact this
theorem Wds.src {D : Blocks} {w : World} {A : Option Addr} {n c : Nat} {l : List Nat} (h : Wds D w (.slice A n c) l) : ∀ ad, A = some ad → ∀ j u, (l.map fun x : Nat => Value.int .u32 x)[j]? = some u → w.cell? (ad.add j) = some u := by
  obtain ⟨A', c', e, _, _, h3⟩ := h
  injection e with e1 e2 e3
  subst e1
  intro ad e j u hj
  have hjl : j < l.length := by
    have := (List.getElem?_eq_some_iff.1 hj).1
    simpa using this
  obtain ⟨b, off, e', _, hr⟩ := h3 (by omega)
  rw [e] at e'
  obtain rfl := Option.some.inj e'
  rw [List.getElem?_map, List.getElem?_eq_getElem hjl] at hj
  simp only [Option.map_some, Option.some.injEq] at hj
  subst hj
  rw [Go.WideShapes.add_plain]
  exact hr j _ (List.getElem?_eq_getElem hjl)
set_option maxHeartbeats 1000000 in
theorem words_any (n : Nat) (w : World) (hn : n < 18446744073709551616) :
    Calls Tryd.prog 71 #[.int .u64 n] w fun e w' => (∃ v', e = .returned v' ∧ Wds (fun k => w.heap.size ≤ k) w' v' (wordsOf n)) ∧ Below w.heap.size w w' := by
  have HN := Lib.hid (two_words n hn)
  go_enter Tryd.func71, Tryd.ntmps71
  go_wp2_with fail
  refine (btrim_any (fun k => w.heap.size ≤ k) _ [n % 4294967296, n / 4294967296] _ ⟨_, 2, rfl, Nat.le_refl _, (fun e => by cases e), fun _ => ⟨w.heap.size, 0, rfl, Nat.le_refl _, fun i x hi => ?_⟩⟩ (by simp)).mono ?_
  · match i, hi with
    | 0, hi | 1, hi => simp at hi; subst hi; simp [go_sem]
    | i + 2, hi => simp at hi
  · rintro e w1 ⟨⟨v, rfl, hv⟩, rfl⟩
    rw [HN.out] at hv
    go_wp2_with fail
    go_ret
    exact ⟨⟨v, rfl, hv⟩, by go_grown⟩
set_option maxHeartbeats 1000000 in
theorem twin_any (D : Blocks) (v : Value) (l : List Nat) (w : World) (hv : Wds D w v l) (hl : l.length ≤ 1000000) :
    Calls Tryd.prog 72 #[v] w fun e w' => (∃ v', e = .returned v' ∧ Wds (fun k => w.heap.size ≤ k) w' v' l) ∧ Below w.heap.size w w' := by
  have HV := Lib.hid hv
  obtain ⟨A, cap, rfl, hc, hz, h3⟩ := hv
  have hA : A = none → l.length = 0 ∧ cap = 0 := fun e => ⟨by have := hz e; omega, hz e⟩
  have HA := Lib.hid hA
  clear hz h3 hA
  go_enter Tryd.func72, Tryd.ntmps72
  go_wp2_with (at_builtin; go_must (refine wpList_app_any rt_words rfl (.const (.slice none 0 0)) (.tmp 3) rfl w.heap.size _ 0 [] rfl (World.ownsRow_nil _ _ _ _) A l.length cap rfl (l.map fun x : Nat => .int .u32 x) (by simp) HA.out HV.out.src (by intro u hu; obtain ⟨s, _, rfl⟩ := List.mem_map.1 hu; rfl) (by unfold maxLen; omega) (by omega) (Nat.le_refl _) ?_; intro v1 w2 o1 o2; simp only [Nat.zero_add, List.nil_append] at o1; obtain ⟨A5, c5, rfl⟩ := own_form o1))
  go_ret
  exact ⟨⟨_, rfl, own_wds o1 fun _ h => h⟩, o2⟩
/-- The digits of a division by one word. -/
def qd (d : Nat) : List Nat → List Nat
  | [] => []
  | x :: r => ((wval r % d) * 4294967296 + x) / d :: qd d r
theorem qd_len (d : Nat) : ∀ l, (qd d l).length = l.length
  | [] => rfl
  | x :: r => by simp [qd, qd_len d r]
theorem qd_val (d : Nat) (hd : 0 < d) : ∀ l, wval (qd d l) = wval l / d
  | [] => by simp [qd, wval]
  | x :: r => by
    simp only [qd, wval, qd_val d hd r]
    have h := Nat.div_add_mod (wval r) d
    have : x + 4294967296 * wval r = ((wval r % d) * 4294967296 + x) + d * (4294967296 * (wval r / d)) := by
      have h2 : 4294967296 * wval r = 4294967296 * (d * (wval r / d) + wval r % d) := by rw [h]
      rw [h2, Nat.mul_add, ← Nat.mul_assoc, Nat.mul_comm 4294967296 d, Nat.mul_assoc, Nat.mul_comm 4294967296 (wval r % d)]
      omega
    rw [this, Nat.add_mul_div_left _ _ hd]
theorem qd_ws (d : Nat) (hd : 0 < d) (hd2 : d < 4294967296) : ∀ l, Ws l → Ws (qd d l)
  | [], _ => by intro x hx; simp [qd] at hx
  | x :: r, h => by
    intro y hy
    simp only [qd, List.mem_cons] at hy
    rcases hy with rfl | hy
    · have h1 := h x (by simp)
      have h2 := Nat.mod_lt (wval r) hd
      have h3 := Nat.mul_le_mul_right 4294967296 (show wval r % d + 1 ≤ d from h2)
      generalize wval r % d = m at h2 h3 ⊢
      rw [Nat.div_lt_iff_lt_mul hd]
      rw [Nat.add_mul] at h3
      omega
    · exact qd_ws d hd hd2 r (fun z hz => h z (by simp [hz])) y hy
theorem qd_at (d : Nat) : ∀ (l : List Nat) (i : Nat) (x : Nat), l[i]? = some x → (qd d l)[i]? = some (((wval (l.drop (i + 1)) % d) * 4294967296 + x) / d)
  | [], i, x, h => by simp at h
  | y :: r, 0, x, h => by simp at h; subst h; simp [qd]
  | y :: r, i + 1, x, h => by
    simp only [List.getElem?_cons_succ] at h
    simp only [qd, List.getElem?_cons_succ, List.drop_succ_cons]
    exact qd_at d r i x h
theorem rem_step (d : Nat) (l : List Nat) (i x : Nat) (h : l[i]? = some x) : wval (l.drop i) % d = ((wval (l.drop (i + 1)) % d) * 4294967296 + x) % d := by
  obtain ⟨h1, h2⟩ := List.getElem?_eq_some_iff.1 h
  rw [List.drop_eq_getElem_cons h1, h2]
  simp only [wval]
  generalize wval (l.drop (i + 1)) = W
  rw [Nat.add_comm x, Nat.mul_comm 4294967296]
  conv => lhs; rw [Nat.add_mod, Nat.mul_mod]
  conv => rhs; rw [Nat.add_mod, Nat.mul_mod, Nat.mod_mod]
/-- A block of which a cell is written. -/
theorem block_set {w : World} {b : Nat} {C : Array Value} {T : TypeId} (h : w.heap[b]? = some (.cells C T (0, 0))) (i : Nat) (v : Value) : (w.setCell ⟨b, i, none⟩ v).heap[b]? = some (.cells (C.setIfInBounds i v) T (0, 0)) := by
  unfold World.setCell
  simp only [Array.getElem?_modify, if_true, h, Option.map_some]
  rfl
theorem run_shl32 (r : Nat) (w : World) (h : r < 4294967296) : (binOp .shl 103 (.int .u64 r) (.int .u64 32)).run Tryd.prog w = .ok (.int .u64 ((r * 4294967296 : Nat) : Int)) w := by
  go_simp
  rw [Go.IntWalk.u64_in _ (by omega)]
theorem bits_or (a b : Nat) (ha : a < 18446744073709551616) (hb : b < 18446744073709551616) : bits .or .u64 (a : Int) (b : Int) = ((a ||| b : Nat) : Int) := by
  have e : ∀ n : Nat, n < 18446744073709551616 → (BitVec.ofInt 64 (n : Int)).toNat = n := fun n hn => by
    rw [BitVec.ofInt_natCast, BitVec.toNat_ofNat]
    exact Nat.mod_eq_of_lt hn
  have hor : a ||| b < 18446744073709551616 := Nat.or_lt_two_pow (n := 64) ha hb
  show IntKind.u64.wrap (((BitVec.ofInt 64 (a : Int)) ||| (BitVec.ofInt 64 (b : Int))).toNat : Int) = _
  rw [BitVec.toNat_or, e a ha, e b hb, Go.IntWalk.u64_in _ (by omega)]
theorem or_add (r x : Nat) (hx : x < 4294967296) : r * 4294967296 ||| x = r * 4294967296 + x := by
  have := Nat.shiftLeft_add_eq_or_of_lt (i := 32) hx r
  rw [Nat.shiftLeft_eq] at this
  exact this.symm
theorem run_or32 (r x : Nat) (w : World) (h : r < 4294967296) (hx : x < 4294967296) : (binOp .or 103 (.int .u64 ((r * 4294967296 : Nat) : Int)) (.int .u64 x)).run Tryd.prog w = .ok (.int .u64 ((r * 4294967296 + x : Nat) : Int)) w := by
  have hb := bits_or (r * 4294967296) x (by omega) (by omega)
  rw [or_add r x hx] at hb
  go_simp
  rw [Int.natCast_mul, Int.natCast_add, Int.natCast_mul] at hb
  exact hb
set_option maxHeartbeats 2000000 in
theorem bsmall_any (D : Blocks) (v : Value) (l : List Nat) (d : Nat) (w : World) (hv : Wds D w v l) (hl : l.length ≤ 1000000) (h0 : 0 < l.length) (hd0 : 0 < d) (hd : d < 4294967296) (hW : Ws l) :
    Calls Tryd.prog 73 #[v, .int .u32 d] w fun e w' => (∃ v', e = .returned (.tuple #[v', .int .u32 (wval l % d : Nat)]) ∧ Wds (fun k => w.heap.size ≤ k) w' v' (wordsOf (wval l / d))) ∧ Below w.heap.size w w' := by
  have HV := Lib.hid hv
  obtain ⟨A, cap, rfl, hc, hz, h3⟩ := hv
  obtain ⟨b, off, rfl, hD, hr⟩ := h3 h0
  have HR := Lib.hid hr
  obtain ⟨L, hL⟩ : ∃ L, l.length = L := ⟨_, rfl⟩
  have HL := Lib.hid hL
  rw [hL] at hc hl h0 ⊢
  have HW := Lib.hid hW
  clear h3 hz hL hr hW
  obtain ⟨i0, z0, hi, hz0, hz1, hz2, -⟩ := rt_words.ex
  obtain ⟨M, hM⟩ : ∃ M, M = madeCells z0.cells ((L : Int).toNat * i0.size) := ⟨_, rfl⟩
  have hMs : M.size = L := by rw [hM, size_madeCells, hz1]; simp
  have hmk : ∀ W : World, (Instr.makeSlice 82 (.int .i64 (L : Int)) (.int .i64 (L : Int))).run Tryd.prog W = .ok (.slice (some ⟨W.heap.size, 0, none⟩) L L) (W.alloc (.cells M 112)) := fun W => by
    have h := run_make (P := Tryd.prog) W 82 112 i0 _ Tryd.underlying82 hi hz0 .i64 .i64 (L : Int) (L : Int) (by omega) (by omega) (by rw [hz2]; omega) (by omega)
    rw [← hM] at h
    simpa using h
  have HMS := Lib.hid hMs
  clear hM hi hz0 hz1 hz2 hMs
  go_enter Tryd.func73, Tryd.ntmps73
  go_wp2_with fail
  obtain ⟨W, hW⟩ : ∃ W, w.alloc (.cells M 112) = W := ⟨_, rfl⟩
  have hbW : Below w.heap.size w W := by subst hW; go_grown
  have hblk : W.heap[w.heap.size]? = some (.cells M 112 (0, 0)) := by subst hW; show (w.heap.push _)[w.heap.size]? = _; simp
  try rw [hW]
  clear hW
  go_loopw [7, 8] (fun r i wr => ∃ (j : Nat) (C : Array Value), j ≤ L ∧ i = .int .i64 ((j : Int) - 1) ∧ r = .int .u64 ((wval (l.drop j) % d : Nat) : Int) ∧ wr.heap[w.heap.size]? = some (.cells C 112 (0, 0)) ∧ C.size = L ∧ Hid (∀ i x, j ≤ i → (qd d l)[i]? = some x → C[i]? = some (.int .u32 (x : Nat))) ∧ Below w.heap.size w wr) (fun _ i _ => ((intOf i) + 1).toNat)
  case atStart =>
    refine ⟨L, M, Nat.le_refl _, rfl, ?_, hblk, HMS.out, fun i x h1 h2 => ?_, hbW⟩
    · rw [List.drop_of_length_le (by have := HL.out; omega)]; rfl
    · have := (List.getElem?_eq_some_iff.1 h2).1
      rw [qd_len, HL.out] at this
      omega
  case round =>
    clear hbW hblk
    obtain ⟨j, C, hj, rfl, rfl, hblk, hC, hq, hbw⟩ := hrel
    cases j with
    | zero =>
      rw [show (((0 : Nat) : Int) - 1) = -1 by omega]
      obtain ⟨R, hR⟩ : ∃ R, wval (l.drop 0) % d = R := ⟨_, rfl⟩
      have hRl : R < 4294967296 := by rw [← hR]; exact Nat.lt_trans (Nat.mod_lt _ hd0) hd
      rw [hR]
      have HRR := Lib.hid hR
      have hCl : C.toList = (qd d l).map fun x : Nat => Value.int .u32 x := by
        apply List.ext_getElem?
        intro i
        rw [List.getElem?_map]
        cases hx : (qd d l)[i]? with
        | none =>
          have h1 := List.getElem?_eq_none_iff.1 hx
          rw [qd_len, HL.out] at h1
          simp only [Option.map_none]
          exact List.getElem?_eq_none (by simp; omega)
        | some x => simpa using hq.out i x (Nat.zero_le _) hx
      have HWd : Wds (fun k => w.heap.size ≤ k) wr (.slice (some ⟨w.heap.size, 0, none⟩) L L) (qd d l) := by
        refine ⟨_, L, by rw [qd_len, HL.out], by rw [qd_len, HL.out]; exact Nat.le_refl _, (fun e => by cases e), fun _ => ⟨w.heap.size, 0, rfl, Nat.le_refl _, fun i x hi => ?_⟩⟩
        rw [Lib.cell_of_heap hblk, Nat.zero_add]
        exact hq.out i x (Nat.zero_le _) hi
      clear hR hq hCl
      go_wp2_with fail
      refine (btrim_any _ _ (qd d l) wr HWd (by rw [qd_len, HL.out]; exact hl)).mono ?_
      rintro e w1 ⟨⟨v, rfl, hv⟩, rfl⟩
      go_wp2_with fail
      refine bodyPost_ret (v := .tuple #[v, .int .u32 R]) (by simp [results, Tryd.results73, go_sem]) rfl ⟨⟨v, ?_, ?_⟩, hbw⟩
      · have := HRR.out
        rw [List.drop_zero] at this
        rw [this]
      · rw [trim_words (qd_ws d hd0 hd l HW.out), qd_val d hd0] at hv
        exact hv
    | succ j =>
      rw [show (((j + 1 : Nat) : Int) - 1) = (j : Int) by omega]
      obtain ⟨x, hx⟩ : ∃ y, l[j]? = some y := ⟨_, List.getElem?_eq_getElem (by have := HL.out; omega)⟩
      have hxl : x < 4294967296 := HW.out x (mem_of_at hx)
      have hcell : wr.cell? ⟨b, off + j, none⟩ = some (.int .u32 (x : Nat)) := cell_keep (HR.out j x hx) hbw
      obtain ⟨R, hR⟩ : ∃ R, wval (l.drop (j + 1)) % d = R := ⟨_, rfl⟩
      have hRl : R < 4294967296 := by rw [← hR]; exact Nat.lt_trans (Nat.mod_lt _ hd0) hd
      have hstep := rem_step d l j x hx
      have hqat := qd_at d l j x hx
      rw [hR] at hstep hqat ⊢
      have hRd : R < d := by rw [← hR]; exact Nat.mod_lt _ hd0
      have hor := bits_or (R * 4294967296) x (by omega) (by omega)
      rw [or_add R x hxl, Int.natCast_mul] at hor
      obtain ⟨N, hN⟩ : ∃ N, R * 4294967296 + x = N := ⟨_, rfl⟩
      have hNq : N / d < 4294967296 := by
        rw [Nat.div_lt_iff_lt_mul hd0, ← hN]
        have h3 := Nat.mul_le_mul_right 4294967296 (show R + 1 ≤ d from hRd)
        rw [Nat.add_mul] at h3
        omega
      have hN64 : N < 18446744073709551616 := by omega
      rw [hN] at hstep hqat hor
      have hor' : bits BinOp.or IntKind.u64 ((R : Int) * 4294967296) (x : Int) = (N : Int) := hor
      have hN0 : (0 : Int) ≤ (N : Int) := Int.natCast_nonneg _
      have hN1 : (N : Int) ≤ 18446744073709551615 := by omega
      have hd1 : (0 : Int) < (d : Int) := by omega
      have HST := Lib.hid hstep
      have HQA := Lib.hid hqat
      obtain ⟨cv, hc1⟩ : ∃ cv, wr.cell? ⟨w.heap.size, j, none⟩ = some cv := ⟨_, by rw [Lib.cell_of_heap hblk]; exact Array.getElem?_eq_getElem (by omega)⟩
      have hc2 : wr.frozen? ⟨w.heap.size, j, none⟩ = false := Lib.frozen_of_heap hblk j
      have hq1 : (N : Int) / (d : Int) ≤ 4294967295 := by
        have h : ((N / d : Nat) : Int) ≤ 4294967295 := by omega
        rw [Int.natCast_ediv] at h
        exact h
      have hq0 : 0 ≤ (N : Int) / (d : Int) := by
        have h : 0 ≤ ((N / d : Nat) : Int) := Int.natCast_nonneg _
        rw [Int.natCast_ediv] at h
        exact h
      have HB := Lib.hid hblk
      have HC := Lib.hid hC
      clear hstep hqat hR hN hx hC hblk hor
      go_wp2_with fail
      go_roundw
      case rel =>
        refine ⟨j, C.setIfInBounds j (.int .u32 ((N : Int) / (d : Int))), by omega, rfl, ?_, block_set HB.out j _, by rw [Array.size_setIfInBounds]; exact HC.out, fun i y h1 h2 => ?_, hbw.setCell (p := ⟨w.heap.size, j, none⟩) (Nat.le_refl _) _⟩
        · rw [HST.out, Int.natCast_emod]
        · rcases Nat.eq_or_lt_of_le h1 with e | h3
          · subst e
            rw [HQA.out] at h2
            obtain rfl := Option.some.inj h2
            rw [Array.getElem?_setIfInBounds_self_of_lt (by have := HC.out; omega), Int.natCast_ediv]
          · rw [Array.getElem?_setIfInBounds_ne (by omega)]
            exact hq.out i y (by omega) h2
      case measure => simp [intOf] <;> omega
end Go.Proofs.YtmklodgcbldndaaDoor
namespace Go.Proofs.YtmklodgcbldndaaDoor
open Go.RowKit Go.Proofs

set_option maxRecDepth 100000
/-- A big number behind a pointer: its sign, its words. -/
structure BigAt (w : World) (p : Nat) (n : Int) : Prop where
  c0 : w.cell? ⟨p, 0, none⟩ = some (.bool (decide (n < 0)))
  ex : ∃ v, w.cell? ⟨p, 1, none⟩ = some v ∧ Wds All w v (wordsOf n.natAbs)
theorem BigAt.below {w w' : World} {p : Nat} {n : Int} (h : BigAt w p n) (hb : Below w.heap.size w w') : BigAt w' p n := by
  obtain ⟨v, h1, h2⟩ := h.ex
  exact ⟨cell_keep h.c0 hb, v, cell_keep h1 hb, h2.below hb⟩
theorem byte_row {w : World} {base : Nat} {E : TypeId} {v : Value} {l : List UInt8} (h : w.ownsRow base E 1 v l.length (Lib.byteCells l)) (h0 : 1 ≤ l.length) : ∃ g cap, v = .slice (some ⟨g, 0, none⟩) l.length cap ∧ base ≤ g ∧ l.length ≤ cap ∧ (∀ i x, l[i]? = some x → w.cell? ⟨g, i, none⟩ = some (.int .u8 (x.toNat : Int))) ∧ (∀ j, w.frozen? ⟨g, j, none⟩ = false) := by
  have hcells := fun g => h.cells (g := g)
  rcases h.2 with ⟨rfl, h1⟩ | ⟨g, cap, cur, rfl, hg, hb, hn, _⟩
  · omega
  · refine ⟨g, cap, rfl, hg, hn, fun i x hi => ?_, fun j => Lib.frozen_of_heap hb j⟩
    have := hcells g rfl i (.int .u8 (x.toNat : Int)) (by simp [Lib.byteCells, hi])
    rw [Go.WideShapes.add_plain, Nat.zero_add] at this
    exact this
theorem rt_u8 : RowType Tryd.prog 59 5 1 1 := .mk' (z := .int .u8 0) Tryd.underlying59 (by kernel_rfl) rfl (by decide)
theorem u8_small {r : Nat} (h : r < 10) : ((UInt8.ofNat (48 + r)).toNat : Int) = 48 + (r : Int) := by
  rw [UInt8.toNat_ofNat']
  omega
set_option maxHeartbeats 4000000 in
theorem bigText_any (p : Nat) (n0 : Int) (w : World) (h : BigAt w p n0) (hn : n0.natAbs < 18446744073709551616) :
    Calls Tryd.prog 51 #[.pointer (some ⟨p, 0, none⟩), .int .i64 10] w fun e w' => e = .returned (.string ⟨(Lib.itoa n0).toArray⟩) ∧ Below w.heap.size w w' := by
  obtain ⟨c0, v, c1, hv⟩ := h
  obtain ⟨NG, hNG⟩ : ∃ b, decide (n0 < 0) = b := ⟨_, rfl⟩
  rw [hNG] at c0
  obtain ⟨N, hN⟩ : ∃ N, n0.natAbs = N := ⟨_, rfl⟩
  rw [hN] at hv hn
  have hlen : (wordsOf N).length ≤ 2 := wordsOf_len (by omega)
  obtain ⟨A, cap, rfl, hc, hz, h3⟩ := id hv
  have HV := Lib.hid hv
  clear h3 hv
  by_cases h0 : N = 0
  · have hn0 : n0 = 0 := by omega
    have hl0 : (wordsOf N).length = 0 := by rw [wordsOf_nil.2 h0]; rfl
    rw [hl0] at c1
    subst hn0
    clear hl0 h0 hN hNG hlen hc hz HV
    go_enter Tryd.func51, Tryd.ntmps51
    go_wp2_with fail
    go_ret
    exact ⟨by rw [itoa_zero]; rfl, Below.refl _ _⟩
  · have hpos : 0 < (wordsOf N).length := List.length_pos_iff.2 (fun e => h0 (wordsOf_nil.1 e))
    obtain ⟨L, hL⟩ : ∃ L, (wordsOf N).length = L := ⟨_, rfl⟩
    rw [hL] at c1 hpos hlen
    have HL := Lib.hid hL
    have HNN := Lib.hid hN
    have HNG := Lib.hid hNG
    have H0 := Lib.hid h0
    have hdl : (digs N).length ≤ 20 := digs_len (by omega)
    have HDL := Lib.hid hdl
    rw [hL] at HV
    clear hL hN hNG h0 hdl hc hz
    go_enter Tryd.func51, Tryd.ntmps51
    go_wp2_with fail
    refine (twin_any All _ (wordsOf N) w HV.out (by have := HL.out; omega)).mono ?_
    rintro e w1 ⟨⟨v1, rfl, hv1⟩, hb1⟩
    have k0 := cell_keep c0 hb1
    have hszw : w.heap.size ≤ w1.heap.size := hb1.size
    go_wp2_with fail
    go_loopg [5, 6] N (fun gm bv av wr => ∃ (m : Nat) (dg : List UInt8), m ≤ gm ∧ m ≤ N ∧ Hid (digs N = dg ++ digs m) ∧ wr.ownsRow w1.heap.size 5 1 bv dg.length (Lib.byteCells dg) ∧ Wds (fun k => some k ≠ bv.ownBlock) wr av (wordsOf m) ∧ wr.cell? ⟨p, 0, none⟩ = some (.bool NG) ∧ Below w.heap.size w wr ∧ w1.heap.size ≤ wr.heap.size)
    case atStart => exact ⟨N, [], Nat.le_refl _, Nat.le_refl _, rfl, World.ownsRow_nil _ _ _ _, hv1.keep (Same.refl _ _) (fun b _ _ => by simp [Value.ownBlock]), k0, hb1, Nat.le_refl _⟩
    case round =>
      clear k0 hv1
      obtain ⟨m, dg, hmg, hmN, hdg, hown, hav, k0, hbw, hsz⟩ := hrel
      have HAV := Lib.hid hav
      obtain ⟨A2, c2, rfl, hc2, hz2, -⟩ := hav
      have hdgl : dg.length ≤ 20 := by have := HDL.out; rw [hdg.out, List.length_append] at this; omega
      by_cases hm : m = 0
      · have hw0 : (wordsOf m).length = 0 := by rw [wordsOf_nil.2 hm]; rfl
        rw [hw0]
        have hdgN : digs N = dg := by have := hdg.out; rw [hm] at this; rw [this]; simp [digs]
        have HDG := Lib.hid hdgN
        have hdg1 : 1 ≤ dg.length := by rw [← hdgN, show digs N = UInt8.ofNat (48 + N % 10) :: digs (N / 10) by rw [digs, dif_neg H0.out]]; simp
        obtain ⟨A3, c3, rfl⟩ := own_form hown
        clear hw0 hdg hm hc2 hz2 HAV hdgN
        cases NG with
        | false =>
          have HANS : Hid (Lib.itoa n0 = dg.reverse) := by
            have h1 := of_decide_eq_false HNG.out
            show _ = _
            rw [← itoa_text n0 (by have := HNN.out; have := H0.out; omega), if_neg h1, HNN.out, HDG.out]
          have hFL : 1 ≤ dg.length ∧ dg.length ≤ 25 := ⟨hdg1, by omega⟩
          have hown' := hown
          obtain ⟨g, cap, hsl, hg0, hcap, hcells, hfz⟩ := byte_row hown' hFL.1
          obtain ⟨hA3, hc3⟩ : A3 = some ⟨g, 0, none⟩ ∧ c3 = cap := by injection hsl with e1 _ e3; exact ⟨e1, e3⟩
          subst hA3
          subst hc3
          have hg0 : w.heap.size ≤ g := Nat.le_trans hszw hg0
          have HFZ := Lib.hid hfz
          have HCL := Lib.hid hcells
          clear hown hown' hfz hcells hsl
          obtain ⟨n, hn⟩ : ∃ n, dg.length = n := ⟨_, rfl⟩
          have HN := Lib.hid hn
          rw [hn]
          have hn25 : 1 ≤ n ∧ n ≤ 25 := by rw [← hn]; exact hFL
          obtain ⟨hn1, hn2⟩ := hn25
          clear hn
          go_wp2_with fail
          go_loopw [8, 9] (fun i j wr => ∃ k : Nat, 2 * k ≤ n + 1 ∧ i = .int .i64 k ∧ j = .int .i64 ((n : Int) - 1 - k) ∧ Hid (∀ m : Nat, m < n → wr.cell? ⟨g, m, none⟩ = some (.int .u8 ((if m < k ∨ n ≤ m + k then (dg.getD (n - 1 - m) 0) else dg.getD m 0).toNat : Int))) ∧ Hid (∀ j, wr.frozen? ⟨g, j, none⟩ = false) ∧ Below w.heap.size w wr) (fun _ j _ => ((intOf j) + 1).toNat)
          case atStart =>
            refine ⟨0, by omega, rfl, by first | (simp; done) | (congr 1; have := HN.out; simp at this; omega), fun m hm => ?_, HFZ, hbw⟩
            have hm' : m < dg.length := by have := HN.out; omega
            rw [if_neg (by omega)]
            have := HCL.out m dg[m] (List.getElem?_eq_getElem hm')
            rw [this]
            rw [List.getD, List.getElem?_eq_getElem hm']
            rfl
          case round =>
            clear HFZ HCL hbw
            obtain ⟨k, hk, rfl, rfl, hcl, hfz, hbw⟩ := hrel
            by_cases hlt : 2 * k + 1 < n
            · obtain ⟨J, hJ⟩ : ∃ J : Nat, J + k + 1 = n := ⟨n - 1 - k, by omega⟩
              rw [show ((n : Int) - 1 - k) = (J : Int) by omega]
              have hkJ : (k : Int) < (J : Int) := by omega
              have q0 := hcl.out k (by omega)
              rw [if_neg (by omega)] at q0
              have q1 := hcl.out J (by omega)
              rw [if_neg (by omega)] at q1
              obtain ⟨xk, hxk⟩ : ∃ x, dg.getD k 0 = x := ⟨_, rfl⟩
              obtain ⟨xJ, hxJ⟩ : ∃ x, dg.getD J 0 = x := ⟨_, rfl⟩
              rw [hxk] at q0
              rw [hxJ] at q1
              have HXK := Lib.hid hxk
              have HXJ := Lib.hid hxJ
              have q2 := hfz.out k
              have q3 := hfz.out J
              have hne : (⟨g, k, none⟩ : Addr) ≠ ⟨g, J, none⟩ := fun e => by injection e with _ e; omega
              have q5 : (wr.setCell ⟨g, k, none⟩ (.int .u8 (xJ.toNat : Int))).cell? ⟨g, J, none⟩ = some (.int .u8 (xJ.toNat : Int)) := (World.cell?_setCell_other _ _ _ _ hne).trans q1
              have hJn : J < n := by omega
              have HJ := Lib.hid hJ
              clear hJ hxk hxJ
              go_wp2_with fail
              go_roundw
              case rel =>
                have hJ := HJ.out
                refine ⟨k + 1, by omega, by go_num, by congr 1; omega, fun m hm => ?_, fun j => by rw [World.frozen?_setCell, World.frozen?_setCell]; exact hfz.out j, (hbw.setCell (p := ⟨g, k, none⟩) hg0 _).setCell (p := ⟨g, J, none⟩) hg0 _⟩
                by_cases h1 : m = J
                · subst h1
                  rw [World.cell?_setCell_same' _ _ _ (by rw [q5]; rfl), if_pos (by omega), show n - 1 - m = k by omega, HXK.out]
                · rw [World.cell?_setCell_other _ _ _ _ (fun e => h1 (by injection e with _ e; exact e.symm))]
                  by_cases h2 : m = k
                  · subst h2
                    rw [World.cell?_setCell_same' _ _ _ (by rw [q0]; rfl), if_pos (by omega), show n - 1 - m = J by omega, HXJ.out]
                  · rw [World.cell?_setCell_other _ _ _ _ (fun e => h2 (by injection e with _ e; exact e.symm)), hcl.out m hm]
                    by_cases h3 : m < k ∨ n ≤ m + k
                    · rw [if_pos h3, if_pos (by omega)]
                    · rw [if_neg h3, if_neg (by omega)]
              case measure => simp [intOf] <;> omega
            · have hkJ : ¬ (k : Int) < (n : Int) - 1 - k := by omega
              have hrl : dg.reverse.length = n := by rw [List.length_reverse]; exact HN.out
              have hconv := run_convert_bytes_back (P := Tryd.prog) wr 59 9 5 ⟨g, 0, none⟩ c3 dg.reverse Tryd.underlying59 Tryd.underlying5 Tryd.underlying9 (fun j hj => by
                rw [Go.WideShapes.add_plain, Nat.zero_add]
                have hjn : j < n := by omega
                rw [hcl.out j hjn]
                have hfl := HN.out
                have e : dg.reverse[j] = dg.getD (n - 1 - j) 0 := by
                  rw [List.getElem_reverse]
                  simp only [hfl, List.getD, List.getElem?_eq_getElem (show n - 1 - j < dg.length by omega), Option.getD_some]
                rw [e]
                by_cases h3 : j < k ∨ n ≤ j + k
                · rw [if_pos h3]
                · rw [if_neg h3, show n - 1 - j = j by omega])
              rw [hrl] at hconv
              clear hcl hfz hrl
              go_wp2_with fail
              go_ret
              exact ⟨by rw [HANS.out]; first | rfl | (rw [List.reverse_append]; rfl), hbw⟩
        | true =>
          have HANS : Hid (Lib.itoa n0 = (dg ++ [45]).reverse) := by
            have h1 := of_decide_eq_true HNG.out
            show _ = _
            rw [← itoa_text n0 (by have := HNN.out; have := H0.out; omega), if_pos h1, HNN.out, HDG.out]
          have hFL : 1 ≤ (dg ++ [45]).length ∧ (dg ++ [45]).length ≤ 25 := by rw [List.length_append]; simp; omega
          go_wp2_with (at_builtin; go_must (refine wpList_app1 rt_u8 wr (.int .u8 45) rfl (.tmp 53) (.tmp 54) rfl w1.heap.size (.slice A3 dg.length c3) dg.length (Lib.byteCells dg) rfl hown rfl rfl (by omega) (by omega) hsz ?_; intro v4 w4 o1 o2 o3 o4; obtain ⟨A4, c4, rfl⟩ := own_form o1))
          have hlap : dg.length + 1 = (dg ++ [45]).length := by rw [List.length_append]; rfl
          have hown' : w4.ownsRow w1.heap.size 5 1 (.slice A4 (dg ++ [45]).length c4) (dg ++ [45]).length (Lib.byteCells (dg ++ [45])) := by
            rw [← hlap]
            have e : Lib.byteCells (dg ++ [45]) = Lib.byteCells dg ++ [.int .u8 45] := by simp [Lib.byteCells]
            rw [e]
            exact o1
          have hbw4 : Below w.heap.size w w4 := hbw.trans (o4.mono hszw)
          rw [hlap]
          clear o1 o2 o3 o4 hbw k0 hlap hsz
          obtain ⟨g, cap, hsl, hg0, hcap, hcells, hfz⟩ := byte_row hown' hFL.1
          obtain ⟨hA3, hc3⟩ : A4 = some ⟨g, 0, none⟩ ∧ c4 = cap := by injection hsl with e1 _ e3; exact ⟨e1, e3⟩
          subst hA3
          subst hc3
          have hg0 : w.heap.size ≤ g := Nat.le_trans hszw hg0
          have HFZ := Lib.hid hfz
          have HCL := Lib.hid hcells
          clear hown hown' hfz hcells hsl
          obtain ⟨n, hn⟩ : ∃ n, (dg ++ [45]).length = n := ⟨_, rfl⟩
          have HN := Lib.hid hn
          rw [hn]
          have hn25 : 1 ≤ n ∧ n ≤ 25 := by rw [← hn]; exact hFL
          obtain ⟨hn1, hn2⟩ := hn25
          clear hn
          go_wp2_with fail
          go_loopw [8, 9] (fun i j wr => ∃ k : Nat, 2 * k ≤ n + 1 ∧ i = .int .i64 k ∧ j = .int .i64 ((n : Int) - 1 - k) ∧ Hid (∀ m : Nat, m < n → wr.cell? ⟨g, m, none⟩ = some (.int .u8 ((if m < k ∨ n ≤ m + k then ((dg ++ [45]).getD (n - 1 - m) 0) else (dg ++ [45]).getD m 0).toNat : Int))) ∧ Hid (∀ j, wr.frozen? ⟨g, j, none⟩ = false) ∧ Below w.heap.size w wr) (fun _ j _ => ((intOf j) + 1).toNat)
          case atStart =>
            refine ⟨0, by omega, rfl, by first | (simp; done) | (congr 1; have := HN.out; simp at this; omega), fun m hm => ?_, HFZ, hbw4⟩
            have hm' : m < (dg ++ [45]).length := by have := HN.out; omega
            rw [if_neg (by omega)]
            have := HCL.out m (dg ++ [45])[m] (List.getElem?_eq_getElem hm')
            rw [this]
            rw [List.getD, List.getElem?_eq_getElem hm']
            rfl
          case round =>
            clear HFZ HCL hbw4
            obtain ⟨k, hk, rfl, rfl, hcl, hfz, hbw⟩ := hrel
            by_cases hlt : 2 * k + 1 < n
            · obtain ⟨J, hJ⟩ : ∃ J : Nat, J + k + 1 = n := ⟨n - 1 - k, by omega⟩
              rw [show ((n : Int) - 1 - k) = (J : Int) by omega]
              have hkJ : (k : Int) < (J : Int) := by omega
              have q0 := hcl.out k (by omega)
              rw [if_neg (by omega)] at q0
              have q1 := hcl.out J (by omega)
              rw [if_neg (by omega)] at q1
              obtain ⟨xk, hxk⟩ : ∃ x, (dg ++ [45]).getD k 0 = x := ⟨_, rfl⟩
              obtain ⟨xJ, hxJ⟩ : ∃ x, (dg ++ [45]).getD J 0 = x := ⟨_, rfl⟩
              rw [hxk] at q0
              rw [hxJ] at q1
              have HXK := Lib.hid hxk
              have HXJ := Lib.hid hxJ
              have q2 := hfz.out k
              have q3 := hfz.out J
              have hne : (⟨g, k, none⟩ : Addr) ≠ ⟨g, J, none⟩ := fun e => by injection e with _ e; omega
              have q5 : (wr.setCell ⟨g, k, none⟩ (.int .u8 (xJ.toNat : Int))).cell? ⟨g, J, none⟩ = some (.int .u8 (xJ.toNat : Int)) := (World.cell?_setCell_other _ _ _ _ hne).trans q1
              have hJn : J < n := by omega
              have HJ := Lib.hid hJ
              clear hJ hxk hxJ
              go_wp2_with fail
              go_roundw
              case rel =>
                have hJ := HJ.out
                refine ⟨k + 1, by omega, by go_num, by congr 1; omega, fun m hm => ?_, fun j => by rw [World.frozen?_setCell, World.frozen?_setCell]; exact hfz.out j, (hbw.setCell (p := ⟨g, k, none⟩) hg0 _).setCell (p := ⟨g, J, none⟩) hg0 _⟩
                by_cases h1 : m = J
                · subst h1
                  rw [World.cell?_setCell_same' _ _ _ (by rw [q5]; rfl), if_pos (by omega), show n - 1 - m = k by omega, HXK.out]
                · rw [World.cell?_setCell_other _ _ _ _ (fun e => h1 (by injection e with _ e; exact e.symm))]
                  by_cases h2 : m = k
                  · subst h2
                    rw [World.cell?_setCell_same' _ _ _ (by rw [q0]; rfl), if_pos (by omega), show n - 1 - m = J by omega, HXJ.out]
                  · rw [World.cell?_setCell_other _ _ _ _ (fun e => h2 (by injection e with _ e; exact e.symm)), hcl.out m hm]
                    by_cases h3 : m < k ∨ n ≤ m + k
                    · rw [if_pos h3, if_pos (by omega)]
                    · rw [if_neg h3, if_neg (by omega)]
              case measure => simp [intOf] <;> omega
            · have hkJ : ¬ (k : Int) < (n : Int) - 1 - k := by omega
              have hrl : (dg ++ [45]).reverse.length = n := by rw [List.length_reverse]; exact HN.out
              have hconv := run_convert_bytes_back (P := Tryd.prog) wr 59 9 5 ⟨g, 0, none⟩ c4 (dg ++ [45]).reverse Tryd.underlying59 Tryd.underlying5 Tryd.underlying9 (fun j hj => by
                rw [Go.WideShapes.add_plain, Nat.zero_add]
                have hjn : j < n := by omega
                rw [hcl.out j hjn]
                have hfl := HN.out
                have e : (dg ++ [45]).reverse[j] = (dg ++ [45]).getD (n - 1 - j) 0 := by
                  rw [List.getElem_reverse]
                  simp only [hfl, List.getD, List.getElem?_eq_getElem (show n - 1 - j < (dg ++ [45]).length by omega), Option.getD_some]
                rw [e]
                by_cases h3 : j < k ∨ n ≤ j + k
                · rw [if_pos h3]
                · rw [if_neg h3, show n - 1 - j = j by omega])
              rw [hrl] at hconv
              clear hcl hfz hrl
              go_wp2_with fail
              go_ret
              exact ⟨by rw [HANS.out]; first | rfl | (rw [List.reverse_append]; rfl), hbw⟩
      · have hwl : 0 < (wordsOf m).length := List.length_pos_iff.2 (fun e => hm (wordsOf_nil.1 e))
        have hwl2 : (wordsOf m).length ≤ 2 := wordsOf_len (by omega)
        obtain ⟨M, hM⟩ : ∃ M, (wordsOf m).length = M := ⟨_, rfl⟩
        have HM := Lib.hid hM
        have hdg' := hdg.out
        rw [show digs m = UInt8.ofNat (48 + m % 10) :: digs (m / 10) by rw [digs, dif_neg hm]] at hdg'
        have hdl2 : dg.length + 1 ≤ 20 := by have := HDL.out; rw [hdg', List.length_append, List.length_cons] at this; omega
        obtain ⟨A3, c3, rfl⟩ := own_form hown
        have hsm := bsmall_any _ _ (wordsOf m) 10 wr HAV.out (by omega) hwl (by decide) (by decide) (wordsOf_ws m)
        obtain ⟨R, hR⟩ : ∃ R, m % 10 = R := ⟨_, rfl⟩
        have hR10 : R < 10 := by rw [← hR]; exact Nat.mod_lt _ (by decide)
        have hRZ : (R : Int) < 10 := by omega
        have HRR := Lib.hid hR
        rw [hR] at hdg'
        rw [hM, wordsOf_val, hR] at hsm
        have HSM := Lib.hid hsm
        have HDD := Lib.hid hdg'
        rw [hM] at hwl hwl2 ⊢
        clear hsm hR hdg'
        have HMZ := Lib.hid hm
        clear hM hdg hc2 hz2 hm
        go_wp2_with fail
        refine HSM.out.mono ?_
        rintro e w2 ⟨⟨v2, rfl, hv2⟩, hb2⟩
        have k2 := cell_keep k0 hb2
        have hown2 := hown.kept (grown_below hb2 none) (by cases (Value.slice A3 dg.length c3).ownBlock <;> simp)
        have HOL : Hid (∀ k, (Value.slice A3 dg.length c3).ownBlock = some k → k < wr.heap.size) := Lib.hid (fun k hk => (hown.lt k hk).2)
        have hsz2 : w1.heap.size ≤ w2.heap.size := Nat.le_trans hsz hb2.size
        have hbw2 := hbw.trans (hb2.mono hbw.size)
        have hrs := hb2.size
        clear hwl hwl2 k0 hown hbw hb2 HSM HAV
        go_wp2_with (at_builtin; go_must (refine wpList_app1 rt_u8 w2 (.int .u8 (48 + (R : Int))) rfl (.tmp 36) (.tmp 40) rfl w1.heap.size (.slice A3 dg.length c3) dg.length (Lib.byteCells dg) rfl hown2 rfl rfl (by omega) (by omega) hsz2 ?_; intro v3 w3 o1 o2 o3 o4))
        go_roundg (m / 10)
        case rel =>
          have hm0 := HMZ.out
          have hsz3 : w2.heap.size + 1 ≤ w3.heap.size := Nat.le_trans (Nat.le_of_eq (Array.size_push _).symm) o2.size
          refine ⟨m / 10, dg ++ [UInt8.ofNat (48 + R)], Nat.le_refl _, by omega, Lib.hid (by rw [HDD.out]; simp), ?_, ?_, cell_keep c0 (hbw2.trans (o4.mono hszw)), hbw2.trans (o4.mono hszw), by omega⟩
          · have e : Lib.byteCells (dg ++ [UInt8.ofNat (48 + R)]) = Lib.byteCells dg ++ [.int .u8 (48 + (R : Int))] := by rw [← u8_small hR10]; simp [Lib.byteCells]
            rw [e, List.length_append]
            exact o1
          · refine hv2.keep (Same.trans (Same.below ((Below.refl _ _).alloc (Nat.le_refl _) _)) (by simp) (Same.grown o2 (fun b hD e => by have := HOL.out b e.symm; omega))) (fun b hD hl e => ?_)
            rcases o3 with h | h
            · have := HOL.out b (by rw [← h]; exact e.symm)
              omega
            · rw [h] at e
              injection e with e
              omega
        case measure => have := HMZ.out; omega
theorem grown_in2 {w wr : World} {p : Nat} (h : w.grownBy wr (some p)) (u v : Value) : w.grownBy ((wr.setCell ⟨p, 1, none⟩ u).setCell ⟨p, 0, none⟩ v) (some p) := by
  refine ⟨h.os, h.tape, h.output, by rw [World.size_setCell, World.size_setCell]; exact h.size, fun b hl hb => ?_⟩
  rw [Below.heap_setCell _ _ v b (fun e => hb (by rw [e])), Below.heap_setCell _ _ u b (fun e => hb (by rw [e]))]
  exact h.block b hl hb
set_option maxHeartbeats 1000000 in
theorem give_any (p : Nat) (neg : Bool) (v x0 x1 : Value) (l : List Nat) (w : World) (hv : Wds All w v l) (c0 : w.cell? ⟨p, 0, none⟩ = some x0) (c1 : w.cell? ⟨p, 1, none⟩ = some x1) (hf : ∀ j, w.frozen? ⟨p, j, none⟩ = false) :
    Calls Tryd.prog 70 #[.pointer (some ⟨p, 0, none⟩), .bool neg, v] w fun e w' => e = .returned (.pointer (some ⟨p, 0, none⟩)) ∧ w' = (w.setCell ⟨p, 1, none⟩ v).setCell ⟨p, 0, none⟩ (.bool (neg && decide (0 < l.length))) := by
  obtain ⟨A, cap, rfl, -, -, -⟩ := hv
  have f0 := hf 0
  have f1 := hf 1
  have f0' : (w.setCell ⟨p, 1, none⟩ (.slice A l.length cap)).frozen? ⟨p, 0, none⟩ = false := by rw [World.frozen?_setCell]; exact f0
  have c0' : (w.setCell ⟨p, 1, none⟩ (.slice A l.length cap)).cell? ⟨p, 0, none⟩ = some x0 := by rw [cell_ne (by decide)]; exact c0
  obtain ⟨n, hn⟩ : ∃ n, l.length = n := ⟨_, rfl⟩
  rw [hn] at *
  clear hf hn
  cases neg with
  | false =>
    go_enter Tryd.func70, Tryd.ntmps70
    go_wp2_with fail
    go_ret
    exact ⟨rfl, rfl⟩
  | true =>
    by_cases h0 : 0 < n
    · have h0' : (0 : Int) < (n : Int) := by omega
      have hd : decide (0 < n) = true := by simpa using h0
      have HD := Lib.hid hd
      clear hd
      go_enter Tryd.func70, Tryd.ntmps70
      go_wp2_with fail
      go_ret
      exact ⟨rfl, by rw [HD.out]; rfl⟩
    · obtain rfl : n = 0 := by omega
      go_enter Tryd.func70, Tryd.ntmps70
      go_wp2_with fail
      go_ret
      exact ⟨rfl, rfl⟩
set_option maxHeartbeats 1000000 in
theorem setInt64_any (p : Nat) (x : Int) (x0 x1 : Value) (w : World) (h1 : -9223372036854775808 ≤ x) (h2 : x ≤ 9223372036854775807) (c0 : w.cell? ⟨p, 0, none⟩ = some x0) (c1 : w.cell? ⟨p, 1, none⟩ = some x1) (hf : ∀ j, w.frozen? ⟨p, j, none⟩ = false) :
    Calls Tryd.prog 50 #[.pointer (some ⟨p, 0, none⟩), .int .i64 x] w fun e w' => e = .returned (.pointer (some ⟨p, 0, none⟩)) ∧ BigAt w' p x ∧ w.grownBy w' (some p) := by
  by_cases h0 : x < 0
  · go_enter Tryd.func50, Tryd.ntmps50
    go_wp2_with fail
    have hwr : IntKind.u64.wrap (-IntKind.u64.wrap x) = (x.natAbs : Int) := by simp [IntKind.wrap, IntKind.bits, IntKind.signed]; omega
    rw [hwr]
    clear hwr
    refine (words_any x.natAbs w (by omega)).mono ?_
    rintro e w1 ⟨⟨v, rfl, hv⟩, hb⟩
    have hpl := cell_lt c0
    have k0 := cell_keep c0 hb
    have k1 := cell_keep c1 hb
    have kf : ∀ j, w1.frozen? ⟨p, j, none⟩ = false := fun j => (hb.frozen (p := ⟨p, j, none⟩) hpl).trans (hf j)
    clear c0 c1 hf
    go_wp2_with fail
    refine (give_any p true v x0 x1 (wordsOf x.natAbs) w1 (hv.keep (Same.refl _ _) (fun _ _ _ => trivial)) k0 k1 kf).mono ?_
    rintro e w2 ⟨rfl, rfl⟩
    go_wp2_with fail
    have hgr : w.grownBy ((w1.setCell ⟨p, 1, none⟩ v).setCell ⟨p, 0, none⟩ (.bool (true && decide (0 < (wordsOf x.natAbs).length)))) (some p) := grown_in2 (grown_below hb _) _ _
    have hvk := hv.keep (D' := fun k => w.heap.size ≤ k) (Same.grown (grown_in2 (grown_below (Below.refl _ _) (some p)) v (.bool (true && decide (0 < (wordsOf x.natAbs).length)))) (fun b hb e => by injection e with e; omega)) (fun _ h _ => h)
    go_ret
    have hpos : 0 < (wordsOf x.natAbs).length := List.length_pos_iff.2 (fun e => by have := wordsOf_nil.1 e; omega)
    exact ⟨rfl, ⟨by rw [cell_eq (x := x0) (by rw [cell_ne (by decide)]; exact k0)]; simp [hpos, h0], v, by rw [cell_ne (by decide), cell_eq k1], hvk.keep (Same.refl _ _) (fun _ _ _ => trivial)⟩, hgr⟩
  · go_enter Tryd.func50, Tryd.ntmps50
    go_wp2_with fail
    have hwr : x = (x.natAbs : Int) := by omega
    rw [hwr]
    clear hwr
    refine (words_any x.natAbs w (by omega)).mono ?_
    rintro e w1 ⟨⟨v, rfl, hv⟩, hb⟩
    have hpl := cell_lt c0
    have k0 := cell_keep c0 hb
    have k1 := cell_keep c1 hb
    have kf : ∀ j, w1.frozen? ⟨p, j, none⟩ = false := fun j => (hb.frozen (p := ⟨p, j, none⟩) hpl).trans (hf j)
    clear c0 c1 hf
    go_wp2_with fail
    refine (give_any p false v x0 x1 (wordsOf x.natAbs) w1 (hv.keep (Same.refl _ _) (fun _ _ _ => trivial)) k0 k1 kf).mono ?_
    rintro e w2 ⟨rfl, rfl⟩
    go_wp2_with fail
    have hgr : w.grownBy ((w1.setCell ⟨p, 1, none⟩ v).setCell ⟨p, 0, none⟩ (.bool (false && decide (0 < (wordsOf x.natAbs).length)))) (some p) := grown_in2 (grown_below hb _) _ _
    have hvk := hv.keep (D' := fun k => w.heap.size ≤ k) (Same.grown (grown_in2 (grown_below (Below.refl _ _) (some p)) v (.bool (false && decide (0 < (wordsOf x.natAbs).length)))) (fun b hb e => by injection e with e; omega)) (fun _ h _ => h)
    go_ret
    exact ⟨rfl, ⟨by rw [cell_eq (x := x0) (by rw [cell_ne (by decide)]; exact k0)]; simp [h0], v, by rw [cell_ne (by decide), cell_eq k1], hvk.keep (Same.refl _ _) (fun _ _ _ => trivial)⟩, hgr⟩
set_option maxHeartbeats 1000000 in
theorem newInt_any (x : Int) (w : World) (h1 : -9223372036854775808 ≤ x) (h2 : x ≤ 9223372036854775807) :
    Calls Tryd.prog 29 #[.int .i64 x] w fun e w' => (∃ p, e = .returned (.pointer (some ⟨p, 0, none⟩)) ∧ BigAt w' p x) ∧ Below w.heap.size w w' := by
  go_enter Tryd.func29, Tryd.ntmps29
  go_wp2_with fail
  refine (setInt64_any w.heap.size x (.bool false) (.slice none 0 0) _ h1 h2 (by simp [go_sem]) (by simp [go_sem]) (fun j => by simp [go_sem])).mono ?_
  rintro e w1 ⟨rfl, hp, hg⟩
  go_wp2_with fail
  go_ret
  exact ⟨⟨_, rfl, hp⟩, (Below.refl _ _).alloc (Nat.le_refl _) _ |>.grown hg (Nat.le_trans (Nat.le_succ _) (Nat.le_of_eq (Array.size_push _).symm)) (fun k hk => by injection hk with hk; omega)⟩
set_option maxHeartbeats 1000000 in
theorem bigString_any (p : Nat) (n0 : Int) (w : World) (h : BigAt w p n0) (hn : n0.natAbs < 18446744073709551616) :
    Calls Tryd.prog 30 #[.pointer (some ⟨p, 0, none⟩)] w fun e w' => e = .returned (.string ⟨(Lib.itoa n0).toArray⟩) ∧ Below w.heap.size w w' := by
  go_enter Tryd.func30, Tryd.ntmps30
  go_wp2_with fail
  refine (bigText_any p n0 w h hn).mono ?_
  rintro e w1 ⟨rfl, hb⟩
  go_wp2_with fail
  go_ret
  exact ⟨rfl, hb⟩
end Go.Proofs.YtmklodgcbldndaaDoor
namespace Go.Proofs.YtmklodgcbldndaaDoor
open Go.RowKit Go.Proofs

set_option maxRecDepth 100000
set_option maxHeartbeats 1000000 in
theorem vtext_int (n : Int) (t : Str) (w : World) (h1 : -9223372036854775808 ≤ n) (h2 : n ≤ 9223372036854775807) :
    Calls Tryd.prog 15 #[.agg #[.int .i64 1, .int .i64 n, .string ⟨t.toArray⟩]] w fun e w' => e = .returned (.string ⟨(vtxt 1 n t).toArray⟩) ∧ Below w.heap.size w w' := by
  obtain ⟨R, hR⟩ : ∃ R, vtxt 1 n t = R := ⟨_, rfl⟩
  have HR : Hid (Lib.itoa n = R) := hR
  rw [hR]
  clear hR
  go_enter Tryd.func15, Tryd.ntmps15
  go_wp2_with fail
  refine (newInt_any n _ h1 h2).mono ?_
  rintro e w1 ⟨⟨p, rfl, hp⟩, hb1⟩
  go_wp2_with fail
  refine (bigString_any p n w1 hp (by omega)).mono ?_
  rintro e w2 ⟨rfl, hb2⟩
  go_wp2_with fail
  go_ret
  exact ⟨by rw [← HR.out]; rfl, chain (chain (by go_grown) hb1) hb2⟩
set_option maxHeartbeats 1000000 in
theorem vtext_bool (n : Int) (t : Str) (w : World) (hn : n = 0 ∨ n = 1) :
    Calls Tryd.prog 15 #[.agg #[.int .i64 2, .int .i64 n, .string ⟨t.toArray⟩]] w fun e w' => e = .returned (.string ⟨(vtxt 2 n t).toArray⟩) ∧ Below w.heap.size w w' := by
  rcases hn with rfl | rfl
  all_goals
    go_enter Tryd.func15, Tryd.ntmps15
    go_wp2_with fail
    go_ret
    exact ⟨rfl, by go_grown⟩
section
variable {P : Program} {ops : Array Oper} {Q : Exit → Act → World → Prop} {o : Oper} {rest : List Oper} {a : Act}
theorem wpList_app2 {T E : TypeId} {bytes : Nat} (R : RowType P T E 1 bytes) (w : World) (u y : Value) (hgd : o.guard = none) (s x : Operand)
    (ho : o.op = .call { callee := .builtin .append, args := #[s, x], argTypes := #[T, T] })
    (base : Nat) (v : Value) (n : Nat) (xs : List Value) (hs : a.eval s = v) (hown : w.ownsRow base E 1 v n xs)
    (hx : a.eval x = .slice (some ⟨w.heap.size, 0, none⟩) 2 2) (h1 : u.oneCell' = true) (h2 : y.oneCell' = true)
    (hbytes : (n + 2) * bytes ≤ 140737488355328) (h63 : n + 2 ≤ 4611686018427387904) (hbase : base ≤ w.heap.size)
    (h : ∀ v' w', w'.ownsRow base E 1 v' (n + 2) (xs ++ [u, y]) → (w.alloc (.cells #[u, y] E)).grownBy w' v.ownBlock → (v'.ownBlock = v.ownBlock ∨ v'.ownBlock = some (w.heap.size + 1)) → Below base w w' → wpList P ops Q rest (a.put o.dst v') w') : wpList P ops Q (o :: rest) a (w.alloc (.cells #[u, y] E)) := by
  refine wpList_app R hgd s x ho base v n xs hs (hown.alloc _) ⟨w.heap.size, 0, none⟩ 2 2 [u, y] hx rfl (fun j z hj => ?_) (by simp [h1, h2]) (by unfold maxLen; omega) hbytes (by simp; omega) ?_
  · match j, hj with
    | 0, hj | 1, hj => simp at hj; subst hj; simp [Addr.add, go_sem]
    | j + 2, hj => simp at hj
  intro v' w' h2 h3 h4 h5
  exact h v' w' h2 h3 (by simpa using h4) (((Below.refl _ _).alloc hbase _).trans h5)
end
theorem bytes_new (w : World) (b : UInt8) : (w.alloc (.cells #[.int .u8 b.toNat] 5)).ownsRow w.heap.size 5 1 (.slice (some ⟨w.heap.size, 0, none⟩) 1 1) 1 (Lib.byteCells [b]) :=
  ⟨rfl, .inr ⟨w.heap.size, 1, #[.int .u8 b.toNat], rfl, Nat.le_refl _, (by show (w.heap.push _)[w.heap.size]? = _; rw [Array.getElem?_push_size]), Nat.le_refl _, by unfold maxLen; omega, rfl, rfl⟩⟩
theorem cells_app (a b : Str) : Lib.byteCells (a ++ b) = Lib.byteCells a ++ Lib.byteCells b := Lib.byteCells_append a b
theorem conv_own {w : World} {base : Nat} {v : Value} {l : Str} {n : Nat} {xs : List Value} (h : w.ownsRow base 5 1 v n xs) (hn : n = l.length) (hx : xs = Lib.byteCells l) (h0 : 1 ≤ l.length) :
    ∃ A cap, v = .slice A n cap ∧ (convert 59 9 v).run Tryd.prog w = .ok (.string ⟨l.toArray⟩) w := by
  subst hn
  subst hx
  obtain ⟨g, cap, rfl, -, -, hc, -⟩ := byte_row h h0
  refine ⟨_, cap, rfl, run_convert_bytes_back (P := Tryd.prog) w 59 9 5 ⟨g, 0, none⟩ cap l Tryd.underlying59 Tryd.underlying5 Tryd.underlying9 (fun j hj => ?_)⟩
  rw [Go.WideShapes.add_plain, Nat.zero_add]
  exact hc j _ (List.getElem?_eq_getElem hj)
set_option maxHeartbeats 2000000 in
theorem vtext_text (t : Str) (w : World) (ht : t.length ≤ 1048576) :
    Calls Tryd.prog 15 #[.agg #[.int .i64 3, .int .i64 0, .string ⟨t.toArray⟩]] w fun e w' => e = .returned (.string ⟨(vtxt 3 0 t).toArray⟩) ∧ Below w.heap.size w w' := by
  obtain ⟨R, hR⟩ : ∃ R, vtxt 3 0 t = R := ⟨_, rfl⟩
  have HR : Hid (34 :: (esc t ++ [34]) = R) := hR
  rw [hR]
  clear hR
  obtain ⟨L, hL⟩ : ∃ L, t.length = L := ⟨_, rfl⟩
  have HL := Lib.hid hL
  rw [hL] at ht
  clear hL
  go_enter Tryd.func15, Tryd.ntmps15
  go_wp2_with fail
  have hB : Below w.heap.size w (w.alloc (.cells #[.int .i64 3, .int .i64 0, .string ⟨t.toArray⟩] 23)) := by go_grown
  have hk : (w.alloc (.cells #[.int .i64 3, .int .i64 0, .string ⟨t.toArray⟩] 23)).cell? ⟨w.heap.size, 2, none⟩ = some (.string ⟨t.toArray⟩) := by simp [go_sem]
  have hsz : w.heap.size + 1 = (w.alloc (.cells #[.int .i64 3, .int .i64 0, .string ⟨t.toArray⟩] 23)).heap.size := by simp
  rw [hsz]
  generalize w.alloc (.cells #[.int .i64 3, .int .i64 0, .string ⟨t.toArray⟩] 23) = W at *
  have hown := bytes_new W 34
  have hbN : Below W.heap.size W (W.alloc (.cells #[.int .u8 (34 : UInt8).toNat] 5)) := by go_grown
  go_loopw [3, 4] (fun bv i wr => ∃ j : Nat, j ≤ L ∧ i = .int .i64 j ∧ wr.ownsRow W.heap.size 5 1 bv (34 :: esc (t.take j)).length (Lib.byteCells (34 :: esc (t.take j))) ∧ Below W.heap.size W wr) (fun _ i _ => L - (intOf i).toNat)
  case atStart => exact ⟨0, Nat.zero_le _, rfl, hown, hbN⟩
  case round =>
    clear hown hbN
    obtain ⟨j, hj, rfl, hown, hb⟩ := hrel
    obtain ⟨A3, c3, rfl⟩ := own_form hown
    have k2 := cell_keep hk hb
    by_cases hlt : j < L
    · have hltZ : (j : Int) < (L : Int) := by omega
      obtain ⟨x, hx⟩ : ∃ x, t[j]? = some x := ⟨_, List.getElem?_eq_getElem (by rw [HL.out]; exact hlt)⟩
      have HX := Lib.hid hx
      have hlt2 : j < t.length := by rw [HL.out]; exact hlt
      have E : ((⟨t.toArray⟩ : ByteArray)[j]'(by simpa [ByteArray.size] using hlt2)).toNat = x.toNat := by rw [byte_at' HX.out]
      have hes := Lib.hid (esc_snoc (t.take j) x)
      have hln : (esc (t.take j)).length ≤ 2 * j := by have := esc_len (t.take j); rw [List.length_take] at this; omega
      have HT := Lib.hid (take_snoc hx)
      have hszw := hb.size
      obtain ⟨D, hD⟩ : ∃ D, 34 :: esc (t.take j) = D := ⟨_, rfl⟩
      have HD := Lib.hid hD
      have hDl : D.length ≤ 2 * j + 1 := by rw [← hD]; simp; omega
      rw [hD] at hown ⊢
      clear hx hln hD
      have fin : Hid (∀ (v3 : Value) (w3 : World), w3.ownsRow W.heap.size 5 1 v3 (D.length + (escB x).length) (Lib.byteCells D ++ Lib.byteCells (escB x)) → w3.ownsRow W.heap.size 5 1 v3 (34 :: esc (t.take (j + 1))).length (Lib.byteCells (34 :: esc (t.take (j + 1))))) := Lib.hid (fun v3 w3 h => by
        have e : 34 :: esc (t.take (j + 1)) = D ++ escB x := by rw [HT.out, hes.out, ← HD.out]; rfl
        rw [e, List.length_append, Lib.byteCells_append]
        exact h)
      by_cases h10 : x = 10
      · subst h10
        go_wp2_with (at_builtin; go_must (refine wpList_app2 rt_u8 wr (.int .u8 92) (.int .u8 110) rfl (.tmp 41) (.tmp 42) rfl W.heap.size (.slice A3 D.length c3) D.length (Lib.byteCells D) rfl hown rfl rfl rfl (by omega) (by omega) hszw ?_; intro v3 w3 o1 o2 o3 o4))
        exact ⟨⟨j + 1, by omega, by go_num, fin.out _ _ o1, hb.trans o4⟩, by simp [intOf] <;> omega⟩
      · have n10 : (x.toNat : Int) ≠ 10 := u8z h10 (by decide)
        by_cases h92 : x = 92 ∨ x = 34
        · have he : escB x = [92, x] := by unfold escB; rw [if_neg h10, if_pos h92]
          rw [he] at fin
          rcases h92 with rfl | rfl
          · clear he n10 h10
            go_wp2_with (at_builtin; go_must (refine wpList_app2 rt_u8 wr (.int .u8 92) (.int .u8 92) rfl (.tmp 47) (.tmp 52) rfl W.heap.size (.slice A3 D.length c3) D.length (Lib.byteCells D) rfl hown rfl rfl rfl (by omega) (by omega) hszw ?_; intro v3 w3 o1 o2 o3 o4))
            exact ⟨⟨j + 1, by omega, by go_num, fin.out _ _ o1, hb.trans o4⟩, by simp [intOf] <;> omega⟩
          · clear he n10 h10
            go_wp2_with (at_builtin; go_must (refine wpList_app2 rt_u8 wr (.int .u8 92) (.int .u8 34) rfl (.tmp 47) (.tmp 52) rfl W.heap.size (.slice A3 D.length c3) D.length (Lib.byteCells D) rfl hown rfl rfl rfl (by omega) (by omega) hszw ?_; intro v3 w3 o1 o2 o3 o4))
            exact ⟨⟨j + 1, by omega, by go_num, fin.out _ _ o1, hb.trans o4⟩, by simp [intOf] <;> omega⟩
        · have hq : x ≠ 92 ∧ x ≠ 34 := ⟨fun e => h92 (.inl e), fun e => h92 (.inr e)⟩
          have n92 : (x.toNat : Int) ≠ 92 := u8z hq.1 (by decide)
          have n34 : (x.toNat : Int) ≠ 34 := u8z hq.2 (by decide)
          have he : escB x = [x] := by unfold escB; rw [if_neg h10, if_neg h92]
          rw [he] at fin
          clear h92 hq h10 he
          go_wp2_with (at_builtin; go_must (refine wpList_app1 rt_u8 wr (.int .u8 x.toNat) rfl (.tmp 32) (.tmp 37) rfl W.heap.size (.slice A3 D.length c3) D.length (Lib.byteCells D) rfl hown rfl rfl (by omega) (by omega) hszw ?_; intro v3 w3 o1 o2 o3 o4))
          exact ⟨⟨j + 1, by omega, by go_num, fin.out _ _ o1, hb.trans o4⟩, by simp [intOf] <;> omega⟩
    · obtain rfl : j = L := by omega
      have e : t.take j = t := List.take_of_length_le (by rw [HL.out]; exact Nat.le_refl _)
      rw [e] at hown ⊢
      have hln := esc_len t
      rw [HL.out] at hln
      obtain ⟨D, hD⟩ : ∃ D, 34 :: esc t = D := ⟨_, rfl⟩
      have HD := Lib.hid hD
      have hDl : D.length ≤ 2 * j + 1 := by rw [← hD]; simp; omega
      have hszw := hb.size
      rw [hD] at hown ⊢
      clear hln hD e
      have hlt3 : ¬ j < t.length := by rw [HL.out]; omega
      go_wp2_with (at_builtin; go_must (refine wpList_app1 rt_u8 wr (.int .u8 34) rfl (.tmp 54) (.tmp 55) rfl W.heap.size (.slice A3 D.length c3) D.length (Lib.byteCells D) rfl hown rfl rfl (by omega) (by omega) hszw ?_; intro v3 w3 o1 o2 o3 o4; obtain ⟨A4, c4, rfl, hconv⟩ := conv_own (l := D ++ [34]) o1 (by simp) (by rw [Lib.byteCells_append]; rfl) (by simp)))
      go_ret
      exact ⟨by rw [← HR.out, ← HD.out]; rfl, hB.trans ((hb.trans o4).mono hB.size)⟩
/-- What ValueText answers of a value that is one. -/
theorem vtextRef_any (s n : Int) (t : Str) (w : World) (hc : vchk s n t = 0) (ht : t.length ≤ 1048576) (h1 : -9223372036854775808 ≤ n) (h2 : n ≤ 9223372036854775807) :
    Calls Tryd.prog 15 #[.agg #[.int .i64 s, .int .i64 n, .string ⟨t.toArray⟩]] w fun e w' => e = .returned (.string ⟨(vtxt s n t).toArray⟩) ∧ Below w.heap.size w w' := by
  have hs : (s = 3 ∧ n = 0) ∨ s = 1 ∨ (s = 2 ∧ (n = 0 ∨ n = 1)) := by
    unfold vchk at hc
    split at hc
    · exact .inl (by assumption)
    · split at hc
      · rename_i h
        exact .inr h.2
      · omega
  rcases hs with ⟨rfl, rfl⟩ | rfl | ⟨rfl, hn⟩
  · exact vtext_text t w ht
  · exact vtext_int n t w h1 h2
  · exact vtext_bool n t w hn
end Go.Proofs.YtmklodgcbldndaaDoor
