/-
  The program's writer of values: escaped, Write.
  Regions that draw their order, hold calls, and end in a store that waits for all the rest: what a load yields is told once; the condition S on the world is asked for no longer than till the tail begins.
  Numbers by lists of 32-bit words, the least first: their value, without noughts at the end; division by one word; decimal digits. Plain.
  exprs.write answers 'wtxt'.
  exprs.Write.
-/
import Derived.Test.YtmklodgcbldndaaDoorM3
import Derived.Lib.AppendIntMem
import Derived.Test.YtmklodgcbldndaaDoorM2
import Derived.Deep.RegionHeld3
import Derived.Deep.DrawnRows
import Derived.Laws.AppendOwnNone
import Derived.Lib.ItoaMem
namespace Go.Proofs.YtmklodgcbldndaaDoor
open Go.RowKit Go.Proofs

set_option maxRecDepth 100000
/-- One byte, escaped. -/
def escB (b : UInt8) : Str := if b = 10 then [92, 110] else if b = 92 ∨ b = 34 then [92, b] else [b]
theorem esc_snoc (l : Str) (b : UInt8) : esc (l ++ [b]) = esc l ++ escB b := by simp [esc, escB]
theorem take_snoc {l : Str} {k : Nat} {x : UInt8} (h : l[k]? = some x) : l.take (k + 1) = l.take k ++ [x] := by
  rw [List.take_add_one, h]; rfl
theorem escB_len (b : UInt8) : 1 ≤ (escB b).length ∧ (escB b).length ≤ 2 := by
  unfold escB
  split
  · simp
  · split <;> simp
theorem esc_len (l : Str) : (esc l).length ≤ 2 * l.length := by
  induction l with
  | nil => simp [esc]
  | cons b l ih =>
    have : esc (b :: l) = escB b ++ esc l := rfl
    rw [this, List.length_append, List.length_cons]
    have := (escB_len b).2
    omega
theorem u8z {x : UInt8} {k : Nat} (h : x ≠ UInt8.ofNat k) (hk : k < 256) : (x.toNat : Int) ≠ (k : Int) := by
  intro e
  apply h
  have e' : x.toNat = k := by omega
  rw [← e', UInt8.ofNat_toNat]
theorem isBld_new (w : World) : IsBld w.heap.size w.heap.size [] (w.alloc (.cells #[.pointer none, .slice none 0 0] 78)) :=
  Or.inl ⟨Nat.le_refl _, .slice none 0 0, (by show (w.heap.push _)[w.heap.size]? = _; rw [Array.getElem?_push_size]), World.ownsRow_nil _ _ _ _, by simp [Value.ownBlock]⟩
set_option maxHeartbeats 1000000 in
theorem escaped_any (t : Str) (w : World) (ht : t.length ≤ 1048576) :
    Calls Tryd.prog 28 #[.string ⟨t.toArray⟩] w fun e w' => e = .returned (.string ⟨(esc t).toArray⟩) ∧ Below w.heap.size w w' := by
  have h0 := Lib.hid (isBld_new w)
  have hb0 : Below w.heap.size w (w.alloc (.cells #[.pointer none, .slice none 0 0] 78)) := by go_grown
  obtain ⟨L, hL⟩ : ∃ L, t.length = L := ⟨_, rfl⟩
  have HL := Lib.hid hL
  rw [hL] at ht
  go_enter Tryd.func28, Tryd.ntmps28
  go_wp2_with fail
  generalize hW : w.alloc (.cells #[.pointer none, .slice none 0 0] 78) = W at *
  clear hW
  go_loopw [8] (fun i wr => ∃ j : Nat, j ≤ L ∧ i = .int .i64 j ∧ Hid (IsBld w.heap.size w.heap.size (esc (t.take j)) wr) ∧ Below w.heap.size w wr) (fun i _ => L - (intOf i).toNat)
  case atStart => exact ⟨0, Nat.zero_le _, rfl, h0, hb0⟩
  case round =>
    clear h0 hb0
    obtain ⟨j, hj, rfl, hB, hb⟩ := hrel
    by_cases hlt : j < L
    · have hltZ : (j : Int) < (L : Int) := by omega
      obtain ⟨x, hx⟩ : ∃ x, t[j]? = some x := ⟨_, List.getElem?_eq_getElem (by rw [HL.out]; exact hlt)⟩
      have HX := Lib.hid hx
      have hlt2 : j < t.length := by rw [HL.out]; exact hlt
      have E : ((⟨t.toArray⟩ : ByteArray)[j]'(by simpa [ByteArray.size] using hlt2)).toNat = x.toNat := by rw [byte_at' HX.out]
      have hes := Lib.hid (esc_snoc (t.take j) x)
      have hln : (esc (t.take j)).length ≤ 2 * j := by have := esc_len (t.take j); rw [List.length_take] at this; omega
      have HT := Lib.hid (take_snoc hx)
      have hsz := hb.size
      clear hx
      by_cases h10 : x = 10
      · subst h10
        go_wp2_with fail
        refine (writeString_any _ _ _ [92, 110] _ hB.out (by simp; omega) hsz).mono ?_
        rintro e w1 ⟨rfl, h1, hb1⟩
        replace h1 := Lib.hid h1
        go_wp2_with fail
        go_roundw
        case rel =>
          refine ⟨j + 1, by omega, by go_num, Lib.hid ?_, hb.trans hb1⟩
          rw [HT.out, hes.out]
          exact h1.out
        case measure => simp [intOf] <;> omega
      · have n10 : (x.toNat : Int) ≠ 10 := u8z h10 (by decide)
        by_cases h92 : x = 92 ∨ x = 34
        · have he : escB x = [92] ++ [x] := by unfold escB; rw [if_neg h10, if_pos h92]; rfl
          rw [he] at hes
          rcases h92 with rfl | rfl
          · clear he n10 h10
            go_wp2_with fail
            refine (writeByte_any _ _ _ 92 _ hB.out (by omega) hsz).mono ?_
            rintro e w1 ⟨rfl, h1, hb1⟩
            replace h1 := Lib.hid h1
            go_wp2_with fail
            refine (writeByte_any _ _ _ 92 _ h1.out (by rw [List.length_append, List.length_singleton]; omega) (Nat.le_trans hsz hb1.size)).mono ?_
            rintro e w2 ⟨rfl, h2, hb2⟩
            replace h2 := Lib.hid h2
            clear h1
            go_wp2_with fail
            go_roundw
            case rel =>
              refine ⟨j + 1, by omega, by go_num, Lib.hid ?_, (hb.trans hb1).trans hb2⟩
              rw [HT.out, hes.out]
              rw [← List.append_assoc]
              exact h2.out
            case measure => simp [intOf] <;> omega
          · clear he n10 h10
            go_wp2_with fail
            refine (writeByte_any _ _ _ 92 _ hB.out (by omega) hsz).mono ?_
            rintro e w1 ⟨rfl, h1, hb1⟩
            replace h1 := Lib.hid h1
            go_wp2_with fail
            refine (writeByte_any _ _ _ 34 _ h1.out (by rw [List.length_append, List.length_singleton]; omega) (Nat.le_trans hsz hb1.size)).mono ?_
            rintro e w2 ⟨rfl, h2, hb2⟩
            replace h2 := Lib.hid h2
            clear h1
            go_wp2_with fail
            go_roundw
            case rel =>
              refine ⟨j + 1, by omega, by go_num, Lib.hid ?_, (hb.trans hb1).trans hb2⟩
              rw [HT.out, hes.out]
              rw [← List.append_assoc]
              exact h2.out
            case measure => simp [intOf] <;> omega
        · have hq : x ≠ 92 ∧ x ≠ 34 := ⟨fun e => h92 (.inl e), fun e => h92 (.inr e)⟩
          have n92 : (x.toNat : Int) ≠ 92 := u8z hq.1 (by decide)
          have n34 : (x.toNat : Int) ≠ 34 := u8z hq.2 (by decide)
          have he : escB x = [x] := by unfold escB; rw [if_neg h10, if_neg h92]
          rw [he] at hes
          clear h92 hq h10 he
          go_wp2_with fail
          refine (writeByte_any _ _ _ x _ hB.out (by omega) hsz).mono ?_
          rintro e w1 ⟨rfl, h1, hb1⟩
          replace h1 := Lib.hid h1
          go_wp2_with fail
          go_roundw
          case rel =>
            refine ⟨j + 1, by omega, by go_num, Lib.hid ?_, hb.trans hb1⟩
            rw [HT.out, hes.out]
            exact h1.out
          case measure => simp [intOf] <;> omega
    · obtain rfl : j = L := by omega
      have e : t.take j = t := List.take_of_length_le (by rw [HL.out]; exact Nat.le_refl _)
      rw [e] at hB
      go_wp2_with fail
      refine (Tryd.Builder_String_any _ _ _ _ hB.out hb.size).mono ?_
      rintro e w1 ⟨rfl, hb1⟩
      go_wp2_with fail
      go_ret
      exact ⟨rfl, hb.trans hb1⟩
theorem app_list (a b : List UInt8) : (⟨a.toArray⟩ : ByteArray) ++ ⟨b.toArray⟩ = ⟨(a ++ b).toArray⟩ := by
  rw [str_data ((⟨a.toArray⟩ : ByteArray) ++ ⟨b.toArray⟩)]
  simp [ByteArray.data_append]
theorem cat3 (a b c : Str) : ((⟨a.toArray⟩ : ByteArray) ++ ⟨b.toArray⟩ ++ ⟨c.toArray⟩) = ⟨(a ++ (b ++ c)).toArray⟩ := by
  rw [app_list, app_list, List.append_assoc]
/-- strconv's table, which outlives new memory. -/
abbrev PowTab (w : World) : Prop := Lib.TabIs Tryd.prog w "internal/strconv.uint64pow10" .u64 Lib.pow10Tab
theorem PowTab.below {w w' : World} (h : PowTab w) (hb : Below w.heap.size w w') : PowTab w' := Lib.tabBelow_of_tabIs h w' hb
set_option maxHeartbeats 1000000 in
theorem vwrite_ok (s n : Int) (t : Str) (w : World) (hc : vchk s n t = 0) (ht : t.length ≤ 1048576) (h1 : -9223372036854775808 ≤ n) (h2 : n ≤ 9223372036854775807) (hT : Tabs w) (hP : PowTab w) :
    Calls Tryd.prog 14 #[.agg #[.int .i64 s, .int .i64 n, .string ⟨t.toArray⟩]] w fun e w' => e = .returned (.tuple #[.string ⟨(vtxt s n t).toArray⟩, .int .i64 0]) ∧ Below w.heap.size w w' := by
  have hbW : Below w.heap.size w (w.alloc (.cells #[.int .i64 s, .int .i64 n, .string ⟨t.toArray⟩] 23)) := by go_grown
  have hck := vcheck_any s n (w.alloc (.cells #[.int .i64 s, .int .i64 n, .string ⟨t.toArray⟩] 23)) t (by omega) (hT.below hbW)
  have c0 : (w.alloc (.cells #[.int .i64 s, .int .i64 n, .string ⟨t.toArray⟩] 23)).cell? ⟨w.heap.size, 0, none⟩ = some (.int .i64 s) := by simp [go_sem]
  have c1 : (w.alloc (.cells #[.int .i64 s, .int .i64 n, .string ⟨t.toArray⟩] 23)).cell? ⟨w.heap.size, 1, none⟩ = some (.int .i64 n) := by simp [go_sem]
  have c2 : (w.alloc (.cells #[.int .i64 s, .int .i64 n, .string ⟨t.toArray⟩] 23)).cell? ⟨w.heap.size, 2, none⟩ = some (.string ⟨t.toArray⟩) := by simp [go_sem]
  have HCC := Lib.hid (And.intro c0 (And.intro c1 c2))
  clear c0 c1 c2
  have HCK := Lib.hid hck
  rw [hc] at HCK
  have HC := Lib.hid hc
  clear hck hc
  have hs : (s = 3 ∧ n = 0) ∨ s = 1 ∨ (s = 2 ∧ (n = 0 ∨ n = 1)) := by
    have := HC.out
    unfold vchk at this
    split at this
    · exact .inl (by assumption)
    · split at this
      · rename_i h
        exact .inr h.2
      · omega
  rcases hs with ⟨rfl, rfl⟩ | rfl | ⟨rfl, hn⟩
  · obtain ⟨R, hR⟩ : ∃ R, vtxt 3 0 t = R := ⟨_, rfl⟩
    have HR : Hid (34 :: (esc t ++ [34]) = R) := hR
    rw [hR]
    clear hR
    go_enter Tryd.func14, Tryd.ntmps14
    go_wp2_with fail
    refine HCK.out.mono ?_
    rintro e w1 ⟨rfl, hb1⟩
    have HB1 := Lib.hid hb1
    replace hb1 := chain hbW hb1
    obtain ⟨q0, q1, q2⟩ := HCC.out
    have k0 := cell_keep q0 HB1.out
    have k1 := cell_keep q1 HB1.out
    have k2 := cell_keep q2 HB1.out
    clear q0 q1 q2 HCC
    go_wp2_with fail
    refine (escaped_any t w1 ht).mono ?_
    rintro e w2 ⟨rfl, hb2⟩
    have hel := esc_len t
    have q1 : ¬ 9223372036854775807 < 1 + (esc t).length := by omega
    have q2 : ¬ 9223372036854775807 < 1 + (esc t).length + 1 := by omega
    go_wp2_with fail
    go_ret2
    exact ⟨by rw [← HR.out]; exact congrArg (fun x => Ending.returned (.tuple #[.string x, .int .i64 0])) (cat3 [34] (esc t) [34]), chain hb1 hb2⟩
  · obtain ⟨R, hR⟩ : ∃ R, vtxt 1 n t = R := ⟨_, rfl⟩
    have HR : Hid (Lib.itoa n = R) := hR
    rw [hR]
    clear hR
    go_enter Tryd.func14, Tryd.ntmps14
    go_wp2_with fail
    refine HCK.out.mono ?_
    rintro e w1 ⟨rfl, hb1⟩
    have HB1 := Lib.hid hb1
    replace hb1 := chain hbW hb1
    obtain ⟨q0, q1, q2⟩ := HCC.out
    have k0 := cell_keep q0 HB1.out
    have k1 := cell_keep q1 HB1.out
    have k2 := cell_keep q2 HB1.out
    clear q0 q1 q2 HCC
    go_wp2_with fail
    refine (Tryd.strconv_FormatInt_10 n h1 h2 w1 (hP.below hb1)).mono ?_
    rintro e w2 ⟨rfl, k, os, hw2⟩
    have hb2 : Below w1.heap.size w1 w2 := by rw [hw2]; exact Lib.below_grow _ _ (Nat.le_refl _) _ _
    clear hw2
    go_wp2_with fail
    go_ret2
    exact ⟨by rw [← HR.out]; rfl, chain hb1 hb2⟩
  · rcases hn with rfl | rfl
    all_goals
      go_enter Tryd.func14, Tryd.ntmps14
      go_wp2_with fail
      refine HCK.out.mono ?_
      rintro e w1 ⟨rfl, hb1⟩
      have HB1 := Lib.hid hb1
      replace hb1 := chain hbW hb1
      obtain ⟨q0, q1, q2⟩ := HCC.out
      have k0 := cell_keep q0 HB1.out
      have k1 := cell_keep q1 HB1.out
      have k2 := cell_keep q2 HB1.out
      clear q0 q1 q2 HCC
      go_wp2_with fail
      refine (Tryd.strconv_FormatBool _ w1).mono ?_
      rintro e w2 ⟨rfl, rfl⟩
      go_wp2_with fail
      go_ret2
      exact ⟨rfl, hb1⟩
set_option maxHeartbeats 1000000 in
theorem vwrite_bad (s n : Int) (t : Str) (w : World) (hc : vchk s n t ≠ 0) (ht : t.length ≤ 1048576) (hT : Tabs w) :
    Calls Tryd.prog 14 #[.agg #[.int .i64 s, .int .i64 n, .string ⟨t.toArray⟩]] w fun e w' => e = .returned (.tuple #[.string ⟨#[]⟩, .int .i64 (vchk s n t)]) ∧ Below w.heap.size w w' := by
  have hbW : Below w.heap.size w (w.alloc (.cells #[.int .i64 s, .int .i64 n, .string ⟨t.toArray⟩] 23)) := by go_grown
  have hck := vcheck_any s n (w.alloc (.cells #[.int .i64 s, .int .i64 n, .string ⟨t.toArray⟩] 23)) t (by omega) (hT.below hbW)
  have c0 : (w.alloc (.cells #[.int .i64 s, .int .i64 n, .string ⟨t.toArray⟩] 23)).cell? ⟨w.heap.size, 0, none⟩ = some (.int .i64 s) := by simp [go_sem]
  have c1 : (w.alloc (.cells #[.int .i64 s, .int .i64 n, .string ⟨t.toArray⟩] 23)).cell? ⟨w.heap.size, 1, none⟩ = some (.int .i64 n) := by simp [go_sem]
  have c2 : (w.alloc (.cells #[.int .i64 s, .int .i64 n, .string ⟨t.toArray⟩] 23)).cell? ⟨w.heap.size, 2, none⟩ = some (.string ⟨t.toArray⟩) := by simp [go_sem]
  have HCC := Lib.hid (And.intro c0 (And.intro c1 c2))
  clear c0 c1 c2
  have HCK := Lib.hid hck
  clear hck
  generalize vchk s n t = R at *
  go_enter Tryd.func14, Tryd.ntmps14
  go_wp2_with fail
  refine HCK.out.mono ?_
  rintro e w1 ⟨rfl, hb1⟩
  have HB1 := Lib.hid hb1
  replace hb1 := chain hbW hb1
  obtain ⟨q0, q1, q2⟩ := HCC.out
  have k0 := cell_keep q0 HB1.out
  have k1 := cell_keep q1 HB1.out
  have k2 := cell_keep q2 HB1.out
  clear q0 q1 q2 HCC
  go_wp2_with fail
  go_ret2
  exact ⟨rfl, hb1⟩
end Go.Proofs.YtmklodgcbldndaaDoor
namespace Go.Proofs.YtmklodgcbldndaaDoor
open Go.RowKit Go.Proofs

section
variable {P : Program} {ops : Array Oper} {Q : Exit → Act → World → Prop} {md : Region.Mode} {S : World → Prop} {n : Nat}

/-- Whichever operation comes up: behind it S holds if it is one of the first n. -/
def wpT (P : Program) (md : Region.Mode) (ops : Array Oper) (Q : Exit → Act → World → Prop) (S : World → Prop) (n : Nat) : Nat → Array Bool → Act → World → Prop
  | 0, L, a, w => Region.ready md ops L = [] ∧ Q .normal a w
  | g + 1, L, a, w => (Region.ready md ops L = [] → Q .normal a w) ∧ ∀ i ∈ Region.ready md ops L, wpOp P ops Q i (fun a' w' => (i < n → S w') ∧ wpT P md ops Q S n g (L.setIfInBounds i true) a' w') a w

theorem wpAny_of_T : ∀ (g : Nat) (L : Array Bool) (a : Act) (w : World), wpT P md ops Q S n g L a w → wpAny P md ops Q g L a w
  | 0, _, _, _, h => h
  | g + 1, _, _, _, h => ⟨h.1, fun i hi => wpOp_mono (fun a' w' h' => wpAny_of_T g _ a' w' h'.2) (h.2 i hi)⟩

/-- Every operation of the tail waits for number i itself. -/
def tailWaits (md : Region.Mode) (ops : Array Oper) (n i : Nat) : Bool :=
  (List.range ops.size).all fun j => decide (j < n) || (match ops[j]? with | some o => o.after.any fun e => Region.binds md e && e.on == i | none => true)
theorem tailWaits_lt {i j : Nat} {L : Array Bool} (h : tailWaits md ops n i = true) (hi : L.getD i true = false) (hj : j ∈ Region.ready md ops L) : j < n := by
  obtain ⟨hu, o, ho, hall⟩ := mem_ready.1 hj
  have hjs : j < ops.size := (Array.getElem?_eq_some_iff.1 ho).1
  have h1 := List.all_eq_true.1 h j (List.mem_range.2 hjs)
  simp only [ho, Bool.or_eq_true, decide_eq_true_eq] at h1
  rcases h1 with h1 | h1
  · exact h1
  · obtain ⟨k, hk, he⟩ := Array.any_eq_true.1 h1
    simp only [Bool.and_eq_true, beq_iff_eq] at he
    have h2 := hall _ (Array.getElem_mem hk) he.1
    rw [he.2] at h2
    rcases Nat.lt_or_ge i L.size with h' | h'
    · simp only [Array.getD, h', dite_true] at hi h2
      exact absurd (hi.symm.trans h2) (by simp)
    · simp [Array.getD, Nat.not_lt.2 h'] at hi

theorem wpT_first {i : Nat} {oi : Oper} {v : Value} (hi : ops[i]? = some oi) (hsel : ∀ (j : Nat) (o : Oper) cs b, ops[j]? = some o → o.op ≠ .select cs b) (htail : tailWaits md ops n i = true)
    (hQ : ∀ c a w, Q (.panic c) (a.put oi.dst v) w → Q (.panic c) a w) :
    ∀ (g : Nat) (L : Array Bool) (a : Act) (w : World),
      (∀ j oj, ops[j]? = some oj → j ≠ i → L.getD j true = false → (∀ e ∈ oj.after, Region.binds md e = true → e.on ≠ i) → oi.apart ops oj = true) →
      i ∈ Region.ready md ops L → YieldsIf P ops S oi v a → S w → wpT P md ops Q S n g (L.setIfInBounds i true) (a.put oi.dst v) w → wpT P md ops Q S n (g + 1) L a w := by
  intro g
  induction g with
  | zero =>
    intro L a w _ hr hy hS H
    refine ⟨fun h => (by rw [h] at hr; cases hr), fun j hj => ?_⟩
    by_cases hji : j = i
    · subst hji
      exact hy.wpOp hi hS ⟨fun _ => hS, H⟩
    · have h1 := ready_mono hj hji
      rw [H.1] at h1
      cases h1
  | succ g ih =>
    intro L a w hfree hr hy hS H
    refine ⟨fun h => (by rw [h] at hr; cases hr), fun j hj => ?_⟩
    by_cases hji : j = i
    · subst hji
      exact hy.wpOp hi hS ⟨fun _ => hS, H⟩
    have hiL := (mem_ready.1 hr).1
    have hjn : j < n := tailWaits_lt htail hiL hj
    have h1 := H.2 j (ready_mono hj hji)
    obtain ⟨hju, oj, hoj, hall⟩ := mem_ready.1 hj
    have hno : ∀ e ∈ oj.after, Region.binds md e = true → e.on ≠ i := by
      intro e he hb hei
      have h2 := hall e he hb
      rw [hei] at h2
      rcases Nat.lt_or_ge i L.size with h' | h'
      · simp only [Array.getD, h', dite_true] at hiL h2
        exact absurd (hiL.symm.trans h2) (by simp)
      · simp [Array.getD, Nat.not_lt.2 h'] at hiL
    have h2 := wpOp_putIf hoj (hfree j oj hoj hji hju hno) (fun cs b => hsel i oi cs b hi) (fun cs b => hsel j oj cs b hoj) hQ hy h1
    refine wpOp_mono (fun a' w' h3 => ⟨h3.2.1, ?_⟩) h2
    refine ih (L.setIfInBounds j true) a' w' (fun k ok hk hki hun hno' => ?_) (ready_mono hr (Ne.symm hji)) h3.1 (h3.2.1 hjn) ?_
    · refine hfree k ok hk hki ?_ hno'
      by_cases hjk : j = k
      · subst hjk; exact hju
      · rw [getD_set_ne true hjk] at hun; exact hun
    · rw [Array.setIfInBounds_comm _ _ hji]
      exact h3.2.2

/-- Take number i first. -/
theorem wpT_take {i : Nat} {oi : Oper} {v : Value} {g : Nat} {L : Array Bool} {a : Act} {w : World} (hi : ops[i]? = some oi)
    (hs : Region.noSelect ops = true) (hf : Region.free md ops L i = true) (hr : (Region.ready md ops L).contains i = true) (ht : tailWaits md ops n i = true)
    (hQ : ∀ c a w, Q (.panic c) (a.put oi.dst v) w → Q (.panic c) a w) (hy : YieldsIf P ops S oi v a) (hS : S w)
    (h : wpT P md ops Q S n g (L.setIfInBounds i true) (a.put oi.dst v) w) : wpT P md ops Q S n (g + 1) L a w :=
  wpT_first hi (Region.noSelect_spec hs) ht hQ g L a w (Region.free_spec hi hf) (by simpa using hr) hy hS h

/-- Only number i may come up. -/
theorem wpT_one {i : Nat} {o : Oper} {g : Nat} {L : Array Bool} {a : Act} {w : World} (ho : ops[i]? = some o) (hr : Region.ready md ops L = [i])
    (h : ∀ K' : Act → World → Prop, Shut (∀ a w, (i < n → S w) → wpT P md ops Q S n g (L.setIfInBounds i true) a w → K' a w) → if Region.wanted o (yielded ops a.tmps) = true then Oper.wp P o a w K' Q else K' (a.put o.dst undef) w) : wpT P md ops Q S n (g + 1) L a w := by
  refine ⟨fun h0 => (by rw [hr] at h0; cases h0), fun j hj => ?_⟩
  rw [hr] at hj
  obtain rfl : j = i := by simpa using hj
  exact wpOp_step ho fun K' hK => h K' fun a w hS hW => hK a w ⟨hS, hW⟩
/-- Two may come up. -/
theorem wpT_two {i j : Nat} {o p : Oper} {g : Nat} {L : Array Bool} {a : Act} {w : World} (ho : ops[i]? = some o) (hp : ops[j]? = some p) (hr : Region.ready md ops L = [i, j])
    (h : ∀ K' : Act → World → Prop, Shut (∀ a w, (i < n → S w) → wpT P md ops Q S n g (L.setIfInBounds i true) a w → K' a w) → if Region.wanted o (yielded ops a.tmps) = true then Oper.wp P o a w K' Q else K' (a.put o.dst undef) w)
    (h' : ∀ K' : Act → World → Prop, Shut (∀ a w, (j < n → S w) → wpT P md ops Q S n g (L.setIfInBounds j true) a w → K' a w) → if Region.wanted p (yielded ops a.tmps) = true then Oper.wp P p a w K' Q else K' (a.put p.dst undef) w) : wpT P md ops Q S n (g + 1) L a w := by
  refine ⟨fun h0 => (by rw [hr] at h0; cases h0), fun k hk => ?_⟩
  rw [hr] at hk
  rcases (by simpa using hk : k = i ∨ k = j) with rfl | rfl
  · exact wpOp_step ho fun K' hK => h K' fun a w hS hW => hK a w ⟨hS, hW⟩
  · exact wpOp_step hp fun K' hK => h' K' fun a w hS hW => hK a w ⟨hS, hW⟩
theorem wpT_done {g : Nat} {L : Array Bool} {a : Act} {w : World} (hr : Region.ready md ops L = []) (h : Q .normal a w) : wpT P md ops Q S n g L a w := by
  cases g with
  | zero => exact ⟨hr, h⟩
  | succ g => exact ⟨fun _ => h, by rw [hr]; simp⟩
theorem wp_region_T (n : Nat) (S : World → Prop) {id : Nat} {a : Act} {w : World} (hm : P.follows .mixedOrders = true) (h : wpT P .any ops Q S n ops.size (Array.replicate ops.size false) a w.drew) : (Code.region id ops true).wp P Q a w :=
  wp_region_any hm (wpAny_of_T _ _ _ _ h)

/-- append as one step of such a region. -/
theorem step_app {T E : TypeId} {size bytes : Nat} (R : RowType P T E size bytes) {o : Oper} {a : Act} {w : World} {K : Act → World → Prop} {X : Prop} (hgd : o.guard = none) (s x : Operand)
    (ho : o.op = .call { callee := .builtin .append, args := #[s, x], argTypes := #[T, T] })
    (base : Nat) (v : Value) (m : Nat) (xs : List Value) (hs : a.eval s = v) (hown : w.ownsRow base E size v m xs)
    (ad : Addr) (k c : Nat) (news : List Value) (hx : a.eval x = .slice (some ad) k c) (hl : news.length = k * size) (hnews : ∀ j u, news[j]? = some u → w.cell? (ad.add j) = some u) (h1 : ∀ u ∈ news, u.oneCell' = true)
    (h63 : m + k ≤ maxLen) (hbytes : (m + k) * bytes ≤ 140737488355328) (hbase : base ≤ w.heap.size)
    (h : ∀ v' w', w'.ownsRow base E size v' (m + k) (xs ++ news) → w.grownBy w' v.ownBlock → (v'.ownBlock = v.ownBlock ∨ v'.ownBlock = some w.heap.size) → Below base w w' → K (a.put o.dst v') w') :
    if Region.wanted o (yielded ops a.tmps) = true then Oper.wp P o a w K Q else X := by
  have hw : Region.wanted o (yielded ops a.tmps) = true := by simp [Region.wanted, hgd]
  rw [if_pos hw]
  obtain ⟨i, z, hi, hz, hsize, hby, hzs⟩ := R.ex
  obtain ⟨v', w', hr, h2, h3, _, h5⟩ := run_append_own_at (P := P) w base T o.type E i z size bytes R.ht hi hz hsize hby hzs R.pos v m xs hown ad k c news hl hnews h1 h63 hbytes hbase
  unfold Oper.wp execOp
  simp only [ho, resolve, invoke, builtin, Sem.run_bind, Sem.run_pure, Result.andThen_ok, List.map_toArray, List.map_cons, List.map_nil, hs, hx, hr]
  exact h _ _ h2 h3 h5 ((Below.refl _ _).grown h3 hbase (fun k hk => (hown.lt k hk).1))
/-- append of elements that lie at a place, or of none. -/
theorem step_app_any {T E : TypeId} {size bytes : Nat} (R : RowType P T E size bytes) {o : Oper} {a : Act} {w : World} {K : Act → World → Prop} {X : Prop} (hgd : o.guard = none) (s x : Operand)
    (ho : o.op = .call { callee := .builtin .append, args := #[s, x], argTypes := #[T, T] })
    (base : Nat) (v : Value) (m : Nat) (xs : List Value) (hs : a.eval s = v) (hown : w.ownsRow base E size v m xs)
    (A : Option Addr) (k c : Nat) (hx : a.eval x = .slice A k c) (ys : List Value) (hl : ys.length = k * size) (hA : A = none → k = 0 ∧ c = 0) (hsrc : ∀ ad, A = some ad → ∀ j u, ys[j]? = some u → w.cell? (ad.add j) = some u) (h1 : ∀ u ∈ ys, u.oneCell' = true)
    (h63 : m + k ≤ maxLen) (hbytes : (m + k) * bytes ≤ 140737488355328) (hbase : base ≤ w.heap.size)
    (h : ∀ v' w', w'.ownsRow base E size v' (m + k) (xs ++ ys) → Below base w w' → K (a.put o.dst v') w') :
    if Region.wanted o (yielded ops a.tmps) = true then Oper.wp P o a w K Q else X := by
  cases A with
  | none =>
    obtain ⟨rfl, rfl⟩ := hA rfl
    obtain ⟨i, z, hi, hz, hsize, hby, hzs⟩ := R.ex
    have hw : Region.wanted o (yielded ops a.tmps) = true := by simp [Region.wanted, hgd]
    rw [if_pos hw]
    have hrun := run_append_owned_none (P := P) (w := w) base T o.type E i size R.ht hi v m xs hown
    have hys : ys = [] := List.eq_nil_of_length_eq_zero (by omega)
    subst hys
    unfold Oper.wp
    simp [execOp, ho, resolve, invoke, builtin, hs, hx, hrun, Result.andThen]
    exact h v w (by simpa using hown) (Below.refl _ _)
  | some ad => exact step_app R hgd s x ho base v m xs hs hown ad k c ys hx hl (hsrc ad rfl) h1 h63 hbytes hbase fun v' w' k1 _ _ k4 => h v' w' k1 k4
end
end Go.Proofs.YtmklodgcbldndaaDoor
namespace Go.Proofs.YtmklodgcbldndaaDoor
open Go.RowKit Go.Proofs

/-- The value of a list of words. -/
def wval : List Nat → Nat
  | [] => 0
  | d :: r => d + 4294967296 * wval r
/-- All are words. -/
def Ws (l : List Nat) : Prop := ∀ d ∈ l, d < 4294967296
/-- No nought at the end. -/
def Trimmed (l : List Nat) : Prop := ∀ d, l.getLast? = some d → d ≠ 0
/-- The noughts at the end struck. -/
def trimW : List Nat → List Nat
  | [] => []
  | d :: r => match trimW r with
    | [] => if d = 0 then [] else [d]
    | e :: q => d :: e :: q
theorem trimW_val : ∀ l : List Nat, wval (trimW l) = wval l
  | [] => rfl
  | d :: r => by
    have ih := trimW_val r
    unfold trimW
    split
    · rename_i h; rw [h] at ih
      simp only [wval] at ih
      split
      · rename_i h0; simp [wval, h0, ← ih]
      · simp [wval, ← ih]
    · rename_i e q h; rw [h] at ih
      simp only [wval]
      rw [← ih]
      simp only [wval]
theorem trimW_trimmed : ∀ l : List Nat, Trimmed (trimW l)
  | [] => by simp [trimW, Trimmed]
  | d :: r => by
    have ih := trimW_trimmed r
    unfold trimW
    split
    · split
      · simp [Trimmed]
      · rename_i h0; simpa [Trimmed] using h0
    · rename_i e q h; rw [h] at ih
      intro x hx
      rw [List.getLast?_cons_cons] at hx
      exact ih x hx
theorem trimW_take : ∀ l : List Nat, trimW l = l.take (trimW l).length
  | [] => rfl
  | d :: r => by
    have ih := trimW_take r
    unfold trimW
    split
    · split <;> simp
    · rename_i e q h
      rw [h] at ih
      simp only [List.length_cons, List.take_succ_cons]
      rw [List.length_cons] at ih
      rw [← ih]
theorem trimW_len (l : List Nat) : (trimW l).length ≤ l.length := by
  have := congrArg List.length (trimW_take l)
  rw [List.length_take] at this
  omega
theorem trimW_snoc (l : List Nat) (d : Nat) : trimW (l ++ [d]) = if d = 0 then trimW l else l ++ [d] := by
  induction l with
  | nil => simp [trimW]
  | cons x r ih =>
    rw [List.cons_append, trimW, ih]
    by_cases h : d = 0
    · rw [if_pos h, if_pos h, trimW]
    · rw [if_neg h, if_neg h]
      cases r <;> simp
theorem Ws.trim {l : List Nat} (h : Ws l) : Ws (trimW l) := fun d hd => h d (by rw [trimW_take] at hd; exact List.mem_of_mem_take hd)
theorem trimmed_trim {l : List Nat} (h : Trimmed l) : trimW l = l := by
  rcases List.eq_nil_or_concat l with rfl | ⟨q, d, rfl⟩
  · rfl
  · rw [List.concat_eq_append] at h ⊢
    rw [trimW_snoc, if_neg (h d (by simp))]
theorem wval_app (l r : List Nat) : wval (l ++ r) = wval l + 4294967296 ^ l.length * wval r := by
  induction l with
  | nil => simp [wval]
  | cons d l ih =>
    simp only [List.cons_append, wval, ih, List.length_cons, Nat.pow_succ]
    rw [Nat.mul_add, ← Nat.mul_assoc, Nat.add_assoc, Nat.mul_comm 4294967296 (4294967296 ^ l.length)]
theorem wval_lt {l : List Nat} (h : Ws l) : wval l < 4294967296 ^ l.length := by
  induction l with
  | nil => simp [wval]
  | cons d l ih =>
    have h1 := h d (by simp)
    have h2 := ih fun x hx => h x (by simp [hx])
    simp only [wval, List.length_cons, Nat.pow_succ]
    have : wval l + 1 ≤ 4294967296 ^ l.length := h2
    have h3 := Nat.mul_le_mul_left 4294967296 this
    rw [Nat.mul_comm (4294967296 ^ l.length)]
    omega
theorem wval_zero {l : List Nat} (h : Trimmed l) : wval l = 0 ↔ l = [] := by
  constructor
  · intro h0
    rcases List.eq_nil_or_concat l with rfl | ⟨q, d, rfl⟩
    · rfl
    · rw [List.concat_eq_append] at h h0
      have hd := h d (by simp)
      rw [wval_app] at h0
      simp only [wval, Nat.mul_zero, Nat.add_zero] at h0
      have : 0 < 4294967296 ^ q.length * d := Nat.mul_pos (Nat.pow_pos (by decide)) (Nat.pos_of_ne_zero hd)
      omega
  · rintro rfl; rfl
/-- Two lists of words without noughts at the end of one value are the same. -/
theorem wval_inj : ∀ {l r : List Nat}, Ws l → Ws r → Trimmed l → Trimmed r → wval l = wval r → l = r
  | [], r, _, _, _, h4, h => ((wval_zero h4).1 h.symm).symm
  | d :: l, [], _, _, h3, _, h => (wval_zero h3).1 h
  | d :: l, e :: r, h1, h2, h3, h4, h => by
    simp only [wval] at h
    have hd := h1 d (by simp)
    have he := h2 e (by simp)
    have : d = e := by omega
    subst this
    have h' : wval l = wval r := by omega
    have t1 : Trimmed l := fun x hx => h3 x (by
      cases l with
      | nil => simp at hx
      | cons a b => rw [List.getLast?_cons_cons]; exact hx)
    have t2 : Trimmed r := fun x hx => h4 x (by
      cases r with
      | nil => simp at hx
      | cons a b => rw [List.getLast?_cons_cons]; exact hx)
    rw [wval_inj (fun x hx => h1 x (by simp [hx])) (fun x hx => h2 x (by simp [hx])) t1 t2 h']
/-- The words of a number. -/
def wordsOf (n : Nat) : List Nat := if h : n = 0 then [] else (n % 4294967296) :: wordsOf (n / 4294967296)
termination_by n
decreasing_by omega
theorem wordsOf_val (n : Nat) : wval (wordsOf n) = n := by
  induction n using Nat.strongRecOn with
  | _ n ih =>
    rw [wordsOf]
    split
    · rename_i h; simp [wval, h]
    · rename_i h
      simp only [wval]
      rw [ih (n / 4294967296) (by omega)]
      omega
theorem wordsOf_ws (n : Nat) : Ws (wordsOf n) := by
  induction n using Nat.strongRecOn with
  | _ n ih =>
    rw [wordsOf]
    split
    · intro d hd; simp at hd
    · rename_i h
      intro d hd
      rcases List.mem_cons.1 hd with rfl | hd
      · omega
      · exact ih (n / 4294967296) (by omega) d hd
theorem wordsOf_nil {n : Nat} : wordsOf n = [] ↔ n = 0 := by
  rw [wordsOf]
  split <;> simp_all
theorem wordsOf_trimmed (n : Nat) : Trimmed (wordsOf n) := by
  induction n using Nat.strongRecOn with
  | _ n ih =>
    rw [wordsOf]
    split
    · simp [Trimmed]
    · rename_i h
      intro d hd
      cases hw : wordsOf (n / 4294967296) with
      | nil =>
        rw [hw] at hd
        simp at hd
        have := wordsOf_nil.1 hw
        omega
      | cons a b =>
        rw [hw, List.getLast?_cons_cons, ← hw] at hd
        exact ih (n / 4294967296) (by omega) d hd
theorem words_is {l : List Nat} (h1 : Ws l) (h2 : Trimmed l) : l = wordsOf (wval l) :=
  wval_inj h1 (wordsOf_ws _) h2 (wordsOf_trimmed _) (wordsOf_val _).symm
theorem trim_words {l : List Nat} (h1 : Ws l) : trimW l = wordsOf (wval l) := by
  rw [← trimW_val]
  exact words_is h1.trim (trimW_trimmed l)
theorem wordsOf_len {n k : Nat} (h : n < 4294967296 ^ k) : (wordsOf n).length ≤ k := by
  induction k generalizing n with
  | zero =>
    have : n = 0 := by simpa using h
    subst this
    simp [wordsOf]
  | succ k ih =>
    rw [wordsOf]
    split
    · simp
    · simp only [List.length_cons]
      have : n / 4294967296 < 4294967296 ^ k := by
        rw [Nat.pow_succ] at h
        exact Nat.div_lt_of_lt_mul (by rw [Nat.mul_comm]; exact h)
      have := ih this
      omega
/-- Division by one word, from the greatest word down: of a list's words from k on, quotient and rest. -/
theorem div_step (l : List Nat) (k : Nat) (d : Nat) (hk : k < l.length) : wval (l.drop k) = l.getD k 0 + 4294967296 * wval (l.drop (k + 1)) := by
  rw [List.drop_eq_getElem_cons hk]
  simp [wval, List.getD, hk]
/-- Decimal digits, the least first. -/
def digs (n : Nat) : List UInt8 := if h : n = 0 then [] else UInt8.ofNat (48 + n % 10) :: digs (n / 10)
termination_by n
decreasing_by omega
theorem digs_dec (n : Nat) (h : n ≠ 0) : (digs n).reverse = Lib.decDigits n := by
  induction n using Nat.strongRecOn with
  | _ n ih =>
    rw [digs, dif_neg h, Lib.decDigits]
    by_cases h10 : n < 10
    · rw [dif_pos h10, digs, dif_pos (by omega)]
      simp [Nat.mod_eq_of_lt h10]
    · rw [dif_neg h10, List.reverse_cons, ih (n / 10) (by omega) (by omega)]
theorem itoa_text (n : Int) (h : n ≠ 0) : (if n < 0 then (digs n.natAbs ++ [45]).reverse else (digs n.natAbs).reverse) = Lib.itoa n := by
  unfold Lib.itoa
  split
  · rw [List.reverse_append, digs_dec _ (by omega)]; rfl
  · rw [digs_dec _ (by omega)]
    congr 1
    omega
theorem itoa_zero : Lib.itoa 0 = [48] := by decide +kernel
theorem digs_len {n k : Nat} (h : n < 10 ^ k) : (digs n).length ≤ k := by
  induction k generalizing n with
  | zero =>
    have : n = 0 := by simpa using h
    subst this
    simp [digs]
  | succ k ih =>
    rw [digs]
    split
    · simp
    · simp only [List.length_cons]
      have : n / 10 < 10 ^ k := by
        rw [Nat.pow_succ] at h
        exact Nat.div_lt_of_lt_mul (by rw [Nat.mul_comm]; exact h)
      have := ih this
      omega
end Go.Proofs.YtmklodgcbldndaaDoor
namespace Go.Proofs.YtmklodgcbldndaaDoor
open Go.RowKit Go.Proofs

set_option maxRecDepth 100000
theorem good_cases {t : Ex} (h : GoodE t) : (∃ s v x, t = .mk 1 [] s v x [] ∧ vchk s v x = 0) ∨ (∃ n s v x, t = .mk 2 n s v x []) ∨ (∃ n s v x a, t = .mk 3 n s v x [a] ∧ lone n = true ∧ GoodE a) ∨ (∃ n s v x a b, t = .mk 3 n s v x [a, b] ∧ 0 < level n ∧ GoodE a ∧ GoodE b) := by
  cases h with
  | mk t h hk =>
    obtain ⟨k, n, s, v, x, ks⟩ := t
    unfold exOne at h
    by_cases h1 : (Ex.mk k n s v x ks).kind = 1 ∧ (Ex.mk k n s v x ks).name = [] ∧ (Ex.mk k n s v x ks).kids.length = 0
    · rw [if_pos h1] at h
      replace h1 : k = 1 ∧ n = [] ∧ ks.length = 0 := h1
      replace h : vchk s v x = 0 ∨ vchk s v x = 9 := h
      obtain ⟨rfl, rfl, h3⟩ := h1
      obtain rfl := List.eq_nil_of_length_eq_zero h3
      refine .inl ⟨s, v, x, rfl, ?_⟩
      rcases h with h | h
      · exact h
      · exfalso
        unfold vchk at h
        repeat' split at h
        all_goals omega
    rw [if_neg h1] at h
    by_cases h2 : (Ex.mk k n s v x ks).kind = 2 ∧ bare (.mk k n s v x ks) = true ∧ (Ex.mk k n s v x ks).kids.length = 0 ∧ isName (Ex.mk k n s v x ks).name = true
    · replace h2 : k = 2 ∧ bare (.mk k n s v x ks) = true ∧ ks.length = 0 ∧ isName n = true := h2
      obtain ⟨rfl, h2, h3, h4⟩ := h2
      obtain rfl := List.eq_nil_of_length_eq_zero h3
      exact .inr (.inl ⟨n, s, v, x, rfl⟩)
    rw [if_neg h2] at h
    by_cases h3 : (Ex.mk k n s v x ks).kind = 3 ∧ bare (.mk k n s v x ks) = true ∧ ((lone (Ex.mk k n s v x ks).name = true ∧ (Ex.mk k n s v x ks).kids.length = 1) ∨ (0 < level (Ex.mk k n s v x ks).name ∧ (Ex.mk k n s v x ks).kids.length = 2))
    · replace h3 : k = 3 ∧ bare (.mk k n s v x ks) = true ∧ ((lone n = true ∧ ks.length = 1) ∨ (0 < level n ∧ ks.length = 2)) := h3
      replace hk : ∀ t ∈ ks, GoodE t := hk
      obtain ⟨rfl, h2, h3⟩ := h3
      rcases h3 with ⟨h3, h4⟩ | ⟨h3, h4⟩
      · match ks, h4 with
        | [a], _ => exact .inr (.inr (.inl ⟨n, s, v, x, a, rfl, h3, hk a (by simp)⟩))
      · match ks, h4 with
        | [a, b], _ => exact .inr (.inr (.inr ⟨n, s, v, x, a, b, rfl, h3, hk a (by simp), hk b (by simp)⟩))
    · rw [if_neg h3] at h
      rcases h with h | h <;> omega
/-- The text, in brackets where what is around holds more tightly. -/
def wtxt (a : Int) (t : Ex) : Str := paren (decide (t.kids.length = 2 ∧ level t.name < a)) (txtE t)
theorem paren_len (b : Bool) (l : Str) : (paren b l).length ≤ l.length + 2 := by
  cases b <;> simp [paren]
theorem ahead_len (n : Str) : (ahead n).length ≤ n.length + 4 := by
  unfold ahead
  repeat' split
  all_goals simp_all
theorem itoa_len (n : Int) (h1 : -9223372036854775808 ≤ n) (h2 : n ≤ 9223372036854775807) : (Lib.itoa n).length ≤ 30 := by
  by_cases h : n = 0
  · subst h; decide +kernel
  · have hd : (digs n.natAbs).length ≤ 20 := digs_len (by omega)
    rw [← itoa_text n h]
    split
    · simp; omega
    · simp; omega
theorem vtxt_len (s n : Int) (x : Str) (hx : x.length ≤ 1048576) (h1 : -9223372036854775808 ≤ n) (h2 : n ≤ 9223372036854775807) : (vtxt s n x).length ≤ 3000000 := by
  unfold vtxt
  split
  · have := itoa_len n h1 h2; omega
  · split
    · split <;> simp
    · have := esc_len x; simp; omega
theorem ranges {x : Int} (h : (Lit.int .i64 x).wf = true) : -9223372036854775808 ≤ x ∧ x ≤ 9223372036854775807 := by
  have h' : IntKind.i64.min ≤ x ∧ x ≤ IntKind.i64.max := by simpa [Lit.wf] using h
  exact h'
mutual
theorem txt_len : ∀ (t : Ex), ExFit 1048576 t → (txtE t).length + 8 ≤ 4000000 * eparts t
  | .mk k n s v x [], h => by
    have := h.parts
    simp only [Ex.name_mk, Ex.vs_mk, Ex.vn_mk, Ex.vt_mk] at this
    obtain ⟨-, hn, -, hv, hx, -, -⟩ := this
    have hv := ranges hv
    have := vtxt_len s v x hx hv.1 hv.2
    simp only [txtE, eparts, epartss]
    split <;> omega
  | .mk k n s v x [a], h => by
    have := h.parts
    simp only [Ex.name_mk, Ex.vs_mk, Ex.vn_mk, Ex.vt_mk, Ex.kids_mk] at this
    obtain ⟨-, hn, -, hv, hx, -, hk⟩ := this
    have hv := ranges hv
    have := vtxt_len s v x hx hv.1 hv.2
    have h1 := txt_len a (hk a (by simp))
    have h2 := paren_len (decide (a.kids.length = 2)) (txtE a)
    have h3 := ahead_len n
    simp only [txtE, eparts, epartss]
    split
    · omega
    · split
      · omega
      · rw [List.length_append]; omega
  | .mk k n s v x (a :: b :: r), h => by
    have := h.parts
    simp only [Ex.name_mk, Ex.vs_mk, Ex.vn_mk, Ex.vt_mk, Ex.kids_mk] at this
    obtain ⟨-, hn, -, hv, hx, -, hk⟩ := this
    have hv := ranges hv
    have := vtxt_len s v x hx hv.1 hv.2
    have h1 := txt_len a (hk a (by simp))
    have h1' := txt_len b (hk b (by simp))
    have h2 := paren_len (decide (a.kids.length = 2 ∧ level a.name < level n)) (txtE a)
    have h2' := paren_len (decide (b.kids.length = 2 ∧ level b.name < level n + 1)) (txtE b)
    simp only [txtE, eparts, epartss]
    split
    · omega
    · split
      · omega
      · simp only [List.length_append, List.length_cons, List.length_nil]; omega
end
attribute [go_sem] app_list
def WSays (t : Ex) (v : Value) (a : Int) (w : World) : Prop :=
  Calls Tryd.prog 21 #[v, .int .i64 a] w fun e w' => e = .returned (.string ⟨(wtxt a t).toArray⟩) ∧ Below w.heap.size w w'
abbrev WIH (m : Nat) : Prop := ∀ (t : Ex) (v : Value) (a : Int) (w : World), eparts t ≤ m → eparts t ≤ 1000 → ExV All w v t → ExFit 1048576 t → GoodE t → -100 ≤ a → a ≤ 100 → Tabs w → PowTab w → WSays t v a w
set_option maxHeartbeats 2000000 in
theorem write_lit (s vn : Int) (x : Str) (v : Value) (a : Int) (w : World) (hv : ExV All w v (.mk 1 [] s vn x [])) (hf : ExFit 1048576 (.mk 1 [] s vn x [])) (hc : vchk s vn x = 0) (hT : Tabs w) (hP : PowTab w) : WSays (.mk 1 [] s vn x []) v a w := by
  unfold WSays
  have e : wtxt a (.mk 1 [] s vn x []) = vtxt s vn x := by simp [wtxt, paren, txtE, Ex.kids_mk]
  rw [e]
  clear e
  obtain ⟨A, L, cap, rfl, hk⟩ := hv.one'
  simp only [Ex.kind, Ex.name, Ex.vs, Ex.vn, Ex.vt, Ex.kids] at hk ⊢
  have hLL : L = 0 := by obtain ⟨A', c', e, -, -⟩ := hk; injection e
  have hfp := hf.parts
  simp only [Ex.kind, Ex.name, Ex.vs, Ex.vn, Ex.vt, Ex.kids] at hfp
  obtain ⟨-, -, -, hvn, hx, -, -⟩ := hfp
  have hr := ranges hvn
  clear hk hf hv hvn
  go_enter Tryd.func21, Tryd.ntmps21
  go_wp2_with fail
  have hba : Below w.heap.size w (w.alloc (.cells #[.int .i64 1, .string ⟨#[]⟩, .int .i64 s, .int .i64 vn, .string ⟨x.toArray⟩, .slice A 0 cap] 26)) := by go_grown
  refine (vwrite_ok s vn x _ hc hx hr.1 hr.2 (hT.below hba) (hP.below hba)).mono ?_
  rintro e w1 ⟨rfl, hb1⟩
  go_wp2_with fail
  go_ret
  exact ⟨rfl, chain hba hb1⟩
set_option maxHeartbeats 2000000 in
theorem write_name (n : Str) (s vn : Int) (x : Str) (v : Value) (a : Int) (w : World) (hv : ExV All w v (.mk 2 n s vn x [])) : WSays (.mk 2 n s vn x []) v a w := by
  unfold WSays
  have e : wtxt a (.mk 2 n s vn x []) = n := by simp [wtxt, paren, txtE, Ex.kids_mk]
  rw [e]
  clear e
  obtain ⟨A, L, cap, rfl, hk⟩ := hv.one'
  simp only [Ex.kind, Ex.name, Ex.vs, Ex.vn, Ex.vt, Ex.kids] at hk ⊢
  clear hk hv
  go_enter Tryd.func21, Tryd.ntmps21
  go_wp2_with fail
  go_ret
  exact ⟨rfl, by go_grown⟩
set_option maxHeartbeats 2000000 in
theorem write_one (m : Nat) (ih : WIH m) (n : Str) (s vn : Int) (x : Str) (c : Ex) (v : Value) (a : Int) (w : World) (hm : eparts (.mk 3 n s vn x [c]) ≤ m + 1) (hm2 : eparts (.mk 3 n s vn x [c]) ≤ 1000) (hv : ExV All w v (.mk 3 n s vn x [c])) (hf : ExFit 1048576 (.mk 3 n s vn x [c])) (hl : lone n = true) (hg : GoodE c) (hT : Tabs w) (hP : PowTab w) : WSays (.mk 3 n s vn x [c]) v a w := by
  unfold WSays
  obtain ⟨R, hR⟩ : ∃ R, wtxt a (.mk 3 n s vn x [c]) = R := ⟨_, rfl⟩
  have HR : Hid (R = ahead n ++ wtxt 6 c) := by
    show _ = _
    rw [← hR]
    have e : decide (c.kids.length = 2 ∧ level c.name < 6) = decide (c.kids.length = 2) := by
      have := (level_lt c.name).2
      congr 1
      exact propext ⟨fun h => h.1, fun h => ⟨h, by omega⟩⟩
    simp [wtxt, paren, txtE, Ex.kids_mk, e]
  rw [hR]
  clear hR
  simp only [eparts, epartss, Nat.add_zero] at hm hm2
  obtain ⟨A, L, cap, rfl, hk⟩ := hv.one'
  simp only [Ex.kind_mk, Ex.name_mk, Ex.vs_mk, Ex.vn_mk, Ex.vt_mk, Ex.kids_mk] at hk ⊢
  obtain ⟨hL, -, b, off, A1, n1, p1, rfl, -, y0, y1, y2, y3, y4, y5, hk'⟩ := exkid_at hk (show [c][0]? = some c from rfl)
  simp only [Nat.zero_mul, Nat.add_zero, List.length_cons, List.length_nil, Nat.zero_add] at y0 y1 y2 y3 y4 y5 hL
  subst hL
  have hbl := cell_lt y0
  have HCF := Lib.hid (hf.parts.2.2.2.2.2.2 c (by simp [Ex.kids_mk]))
  have hba : Below w.heap.size w (w.alloc (.cells #[.int .i64 3, .string ⟨n.toArray⟩, .int .i64 s, .int .i64 vn, .string ⟨x.toArray⟩, .slice (some ⟨b, off, none⟩) 1 cap] 26)) := by go_grown
  have hcall := Lib.hid (ih c (.agg #[.int .i64 c.kind, .string ⟨c.name.toArray⟩, .int .i64 c.vs, .int .i64 c.vn, .string ⟨c.vt.toArray⟩, .slice A1 n1 p1]) 6 _ (by omega) (by omega) ((exV_of hk').keep (Same.below hba) (fun _ _ _ => trivial)) HCF.out hg (by omega) (by omega) (hT.below hba) (hP.below hba))
  have hlen : (wtxt 6 c).length ≤ 4000000000 := by
    have h1 := txt_len c HCF.out
    have h2 := paren_len (decide (c.kids.length = 2 ∧ level c.name < 6)) (txtE c)
    unfold wtxt
    omega
  obtain ⟨T, hT'⟩ : ∃ T, wtxt 6 c = T := ⟨_, rfl⟩
  unfold WSays at hcall
  rw [hT'] at hcall HR hlen
  clear hT' hv hk hf hg hm hm2 hk'
  have hn : n = [110, 111, 116] ∨ n = [110, 101, 103] ∨ n = [35] := by simpa [lone] using hl
  clear hl
  rcases hn with rfl | rfl | rfl
  · have HR2 : Hid (R = [110, 111, 116, 32] ++ T) := HR
    have q1 : ¬ 9223372036854775807 < 4 + T.length := by omega
    clear HR
    go_enter Tryd.func21, Tryd.ntmps21
    go_wp2_with fail
    refine hcall.out.mono ?_
    rintro e w1 ⟨rfl, hb1⟩
    go_wp2_with fail
    go_ret
    exact ⟨by rw [HR2.out]; exact congrArg (fun y => Ending.returned (.string y)) (app_list [110, 111, 116, 32] T), chain hba hb1⟩
  · have HR2 : Hid (R = [45, 32] ++ T) := HR
    have q1 : ¬ 9223372036854775807 < 2 + T.length := by omega
    clear HR
    go_enter Tryd.func21, Tryd.ntmps21
    go_wp2_with fail
    refine hcall.out.mono ?_
    rintro e w1 ⟨rfl, hb1⟩
    go_wp2_with fail
    go_ret
    exact ⟨by rw [HR2.out]; exact congrArg (fun y => Ending.returned (.string y)) (app_list [45, 32] T), chain hba hb1⟩
  · have HR2 : Hid (R = [35] ++ T) := HR
    have q1 : ¬ 9223372036854775807 < 1 + T.length := by omega
    clear HR
    go_enter Tryd.func21, Tryd.ntmps21
    go_wp2_with fail
    refine hcall.out.mono ?_
    rintro e w1 ⟨rfl, hb1⟩
    go_wp2_with fail
    go_ret
    exact ⟨by rw [HR2.out]; exact congrArg (fun y => Ending.returned (.string y)) (app_list [35] T), chain hba hb1⟩
set_option maxHeartbeats 2000000 in
theorem write_two (m : Nat) (ih : WIH m) (n : Str) (s vn : Int) (x : Str) (c d : Ex) (v : Value) (a : Int) (w : World) (hm : eparts (.mk 3 n s vn x [c, d]) ≤ m + 1) (hm2 : eparts (.mk 3 n s vn x [c, d]) ≤ 1000) (hv : ExV All w v (.mk 3 n s vn x [c, d])) (hf : ExFit 1048576 (.mk 3 n s vn x [c, d])) (hl : 0 < level n) (hg : GoodE c) (hg' : GoodE d) (ha1 : -100 ≤ a) (ha2 : a ≤ 100) (hT : Tabs w) (hP : PowTab w) : WSays (.mk 3 n s vn x [c, d]) v a w := by
  unfold WSays
  obtain ⟨R, hR⟩ : ∃ R, wtxt a (.mk 3 n s vn x [c, d]) = R := ⟨_, rfl⟩
  have HR : Hid (R = paren (decide (level n < a)) (wtxt (level n) c ++ ([32] ++ n ++ [32]) ++ wtxt (level n + 1) d)) := by
    show _ = _
    rw [← hR]
    simp [wtxt, txtE, Ex.kids_mk, Ex.name_mk]
  rw [hR]
  clear hR
  simp only [eparts, epartss, Nat.add_zero] at hm hm2
  obtain ⟨A, L, cap, rfl, hk⟩ := hv.one'
  simp only [Ex.kind_mk, Ex.name_mk, Ex.vs_mk, Ex.vn_mk, Ex.vt_mk, Ex.kids_mk] at hk ⊢
  obtain ⟨hL, -, b, off, A1, n1, p1, rfl, -, y0, y1, y2, y3, y4, y5, hk'⟩ := exkid_at hk (show [c, d][0]? = some c from rfl)
  obtain ⟨-, -, b2, off2, A2, n2, p2, e2, -, z0, z1, z2, z3, z4, z5, hk2⟩ := exkid_at hk (show [c, d][1]? = some d from rfl)
  injection e2 with e2
  injection e2 with e3 e4
  subst e3 e4
  simp only [Nat.zero_mul, Nat.one_mul, Nat.add_zero, List.length_cons, List.length_nil, Nat.zero_add] at y0 y1 y2 y3 y4 y5 z0 z1 z2 z3 z4 z5 hL
  subst hL
  have hbl := cell_lt y0
  have hfp := hf.parts
  simp only [Ex.name_mk, Ex.kids_mk] at hfp
  have hnl := hfp.2.1
  have HCF := Lib.hid (hfp.2.2.2.2.2.2 c (by simp))
  have HDF := Lib.hid (hfp.2.2.2.2.2.2 d (by simp))
  obtain ⟨W, hW⟩ : ∃ W, w.alloc (.cells #[.int .i64 3, .string ⟨n.toArray⟩, .int .i64 s, .int .i64 vn, .string ⟨x.toArray⟩, .slice (some ⟨b, off, none⟩) 2 cap] 26) = W := ⟨_, rfl⟩
  have hba : Below w.heap.size w W := by rw [← hW]; go_grown
  have hbd : Below w.heap.size w W.drew := hba.drew
  have HB : Hid (ExBox W w.heap.size (.mk 3 n s vn x [c, d]) (.slice (some ⟨b, off, none⟩) 2 cap)) := by
    show ExBox _ _ _ _
    rw [← hW]
    exact new_exval w (.mk 3 n s vn x [c, d]) _ _
  have HW := Lib.hid hW
  have hlv := level_lt n
  have HCD := Lib.hid (ih c (.agg #[.int .i64 c.kind, .string ⟨c.name.toArray⟩, .int .i64 c.vs, .int .i64 c.vn, .string ⟨c.vt.toArray⟩, .slice A1 n1 p1]) (level n) W.drew (by omega) (by omega) ((exV_of hk').keep (Same.below hbd) (fun _ _ _ => trivial)) HCF.out hg (by omega) (by omega) (hT.below hbd) (hP.below hbd))
  have hcall2 : Hid (∀ w1, Below w.heap.size w w1 → WSays d (.agg #[.int .i64 d.kind, .string ⟨d.name.toArray⟩, .int .i64 d.vs, .int .i64 d.vn, .string ⟨d.vt.toArray⟩, .slice A2 n2 p2]) (level n + 1) w1) := Lib.hid (fun w1 (hb1 : Below w.heap.size w w1) => ih d (.agg #[.int .i64 d.kind, .string ⟨d.name.toArray⟩, .int .i64 d.vs, .int .i64 d.vn, .string ⟨d.vt.toArray⟩, .slice A2 n2 p2]) (level n + 1) w1 (by omega) (by omega) ((exV_of hk2).keep (Same.below hb1) (fun _ _ _ => trivial)) HDF.out hg' (by omega) (by omega) (hT.below hb1) (hP.below hb1))
  have hlen : (wtxt (level n) c).length ≤ 4000000000 ∧ (wtxt (level n + 1) d).length ≤ 4000000000 := by
    have h1 := txt_len c HCF.out
    have h2 := paren_len (decide (c.kids.length = 2 ∧ level c.name < level n)) (txtE c)
    have h3 := txt_len d HDF.out
    have h4 := paren_len (decide (d.kids.length = 2 ∧ level d.name < level n + 1)) (txtE d)
    unfold wtxt
    omega
  obtain ⟨T1, hT1⟩ : ∃ T, wtxt (level n) c = T := ⟨_, rfl⟩
  obtain ⟨T2, hT2⟩ : ∃ T, wtxt (level n + 1) d = T := ⟨_, rfl⟩
  unfold WSays at HCD hcall2
  rw [hT1] at HCD HR hlen
  rw [hT2] at hcall2 HR hlen
  obtain ⟨hl1, hl2⟩ := hlen
  have hLV := level_any n
  have HWR : Hid (IntKind.i64.wrap (level n + 1) = level n + 1) := Lib.hid (by simp [IntKind.wrap, IntKind.bits, IntKind.signed]; omega)
  have HLV := Lib.hid hLV
  clear hT1 hT2 hv hk hf hg hg' hm hm2 hk' hk2 hfp hLV ih hW
  have hone : ((2 : Int) == 1) = false := rfl
  go_enter Tryd.func21, Tryd.ntmps21
  go_wp2_with fail
  refine (HLV.out _).mono ?_
  rintro e w1 ⟨rfl, rfl⟩
  try rw [HW.out]
  have kb := Lib.hid HB.out
  clear HW
  obtain ⟨k0, k1, k2, k3, k4, k5, k6, k7⟩ := HB.out
  simp only [Ex.kind_mk, Ex.name_mk, Ex.vs_mk, Ex.vn_mk, Ex.vt_mk] at k0 k1 k2 k3 k4 k5
  have r0 := cell_keep y0 hba
  have u0 := cell_keep z0 hba
  have r1 := cell_keep y1 hba
  have u1 := cell_keep z1 hba
  have r2 := cell_keep y2 hba
  have u2 := cell_keep z2 hba
  have r3 := cell_keep y3 hba
  have u3 := cell_keep z3 hba
  have r4 := cell_keep y4 hba
  have u4 := cell_keep z4 hba
  have r5 := cell_keep y5 hba
  have u5 := cell_keep z5 hba
  have hS : ∀ w' : World, Below W.heap.size W w' → (fun w' : World => w'.cell? ⟨w.heap.size, 1, none⟩ = some (.string ⟨n.toArray⟩) ∧ w'.cell? ⟨w.heap.size, 5, none⟩ = some (.slice (some ⟨b, off, none⟩) 2 cap) ∧ w'.cell? ⟨b, off, none⟩ = some (.int .i64 c.kind) ∧ w'.cell? ⟨b, off + 1, none⟩ = some (.string ⟨c.name.toArray⟩) ∧ w'.cell? ⟨b, off + 2, none⟩ = some (.int .i64 c.vs) ∧ w'.cell? ⟨b, off + 3, none⟩ = some (.int .i64 c.vn) ∧ w'.cell? ⟨b, off + 4, none⟩ = some (.string ⟨c.vt.toArray⟩) ∧ w'.cell? ⟨b, off + 5, none⟩ = some (.slice A1 n1 p1) ∧ w'.cell? ⟨b, off + 6, none⟩ = some (.int .i64 d.kind) ∧ w'.cell? ⟨b, off + 6 + 1, none⟩ = some (.string ⟨d.name.toArray⟩) ∧ w'.cell? ⟨b, off + 6 + 2, none⟩ = some (.int .i64 d.vs) ∧ w'.cell? ⟨b, off + 6 + 3, none⟩ = some (.int .i64 d.vn) ∧ w'.cell? ⟨b, off + 6 + 4, none⟩ = some (.string ⟨d.vt.toArray⟩) ∧ w'.cell? ⟨b, off + 6 + 5, none⟩ = some (.slice A2 n2 p2)) w' := fun w' h => ⟨cell_keep k1 h, cell_keep k5 h, cell_keep r0 h, cell_keep r1 h, cell_keep r2 h, cell_keep r3 h, cell_keep r4 h, cell_keep r5 h, cell_keep u0 h, cell_keep u1 h, cell_keep u2 h, cell_keep u3 h, cell_keep u4 h, cell_keep u5 h⟩
  have HSd := Lib.hid (hS W.drew (Below.refl _ _).drew)
  have HSB := Lib.hid hS
  clear hS
  go_wp2_with fail
  refine wp_region_T 19 (fun w' : World => w'.cell? ⟨w.heap.size, 1, none⟩ = some (.string ⟨n.toArray⟩) ∧ w'.cell? ⟨w.heap.size, 5, none⟩ = some (.slice (some ⟨b, off, none⟩) 2 cap) ∧ w'.cell? ⟨b, off, none⟩ = some (.int .i64 c.kind) ∧ w'.cell? ⟨b, off + 1, none⟩ = some (.string ⟨c.name.toArray⟩) ∧ w'.cell? ⟨b, off + 2, none⟩ = some (.int .i64 c.vs) ∧ w'.cell? ⟨b, off + 3, none⟩ = some (.int .i64 c.vn) ∧ w'.cell? ⟨b, off + 4, none⟩ = some (.string ⟨c.vt.toArray⟩) ∧ w'.cell? ⟨b, off + 5, none⟩ = some (.slice A1 n1 p1) ∧ w'.cell? ⟨b, off + 6, none⟩ = some (.int .i64 d.kind) ∧ w'.cell? ⟨b, off + 6 + 1, none⟩ = some (.string ⟨d.name.toArray⟩) ∧ w'.cell? ⟨b, off + 6 + 2, none⟩ = some (.int .i64 d.vs) ∧ w'.cell? ⟨b, off + 6 + 3, none⟩ = some (.int .i64 d.vn) ∧ w'.cell? ⟨b, off + 6 + 4, none⟩ = some (.string ⟨d.vt.toArray⟩) ∧ w'.cell? ⟨b, off + 6 + 5, none⟩ = some (.slice A2 n2 p2)) (by kernel_rfl) ?_
  refine wpT_take (i := 0) (v := ?_) rfl (by kernel_rfl) (by kernel_rfl) (by kernel_rfl) (by kernel_rfl) (fun _ _ _ h => h) (Or.inl ⟨by rfl, ?_⟩) HSd.out ?_
  rotate_left
  · (intro wq hSw; obtain ⟨q0, q1, q2, q3, q4, q5, q6, q7, q8, q9, q10, q11, q12, q13⟩ := hSw; go_simp; all_goals (first | (with_reducible rfl) | (rw [if_neg (by first | omega | (simp; omega) | (simp only [List.length_append, List.length_cons, List.length_nil]; omega))])))
  simp only [List.getElem_toArray, List.getElem_cons_succ, List.getElem_cons_zero, Act.put, List.setIfInBounds_toArray, List.set_cons_zero, List.set_cons_succ]
  refine wpT_take (i := 1) (v := ?_) rfl (by kernel_rfl) (by kernel_rfl) (by kernel_rfl) (by kernel_rfl) (fun _ _ _ h => h) (Or.inl ⟨by rfl, ?_⟩) HSd.out ?_
  rotate_left
  · (intro wq hSw; obtain ⟨q0, q1, q2, q3, q4, q5, q6, q7, q8, q9, q10, q11, q12, q13⟩ := hSw; go_simp; all_goals (first | (with_reducible rfl) | (rw [if_neg (by first | omega | (simp; omega) | (simp only [List.length_append, List.length_cons, List.length_nil]; omega))])))
  simp only [List.getElem_toArray, List.getElem_cons_succ, List.getElem_cons_zero, Act.put, List.setIfInBounds_toArray, List.set_cons_zero, List.set_cons_succ]
  refine wpT_take (i := 2) (v := ?_) rfl (by kernel_rfl) (by kernel_rfl) (by kernel_rfl) (by kernel_rfl) (fun _ _ _ h => h) (Or.inl ⟨by rfl, ?_⟩) HSd.out ?_
  rotate_left
  · (intro wq hSw; obtain ⟨q0, q1, q2, q3, q4, q5, q6, q7, q8, q9, q10, q11, q12, q13⟩ := hSw; go_simp; all_goals (first | (with_reducible rfl) | (rw [if_neg (by first | omega | (simp; omega) | (simp only [List.length_append, List.length_cons, List.length_nil]; omega))])))
  simp only [List.getElem_toArray, List.getElem_cons_succ, List.getElem_cons_zero, Act.put, List.setIfInBounds_toArray, List.set_cons_zero, List.set_cons_succ]
  refine wpT_take (i := 3) (v := ?_) rfl (by kernel_rfl) (by kernel_rfl) (by kernel_rfl) (by kernel_rfl) (fun _ _ _ h => h) (Or.inl ⟨by rfl, ?_⟩) HSd.out ?_
  rotate_left
  · (intro wq hSw; obtain ⟨q0, q1, q2, q3, q4, q5, q6, q7, q8, q9, q10, q11, q12, q13⟩ := hSw; go_simp; all_goals (first | (with_reducible rfl) | (rw [if_neg (by first | omega | (simp; omega) | (simp only [List.length_append, List.length_cons, List.length_nil]; omega))])))
  simp only [List.getElem_toArray, List.getElem_cons_succ, List.getElem_cons_zero, Act.put, List.setIfInBounds_toArray, List.set_cons_zero, List.set_cons_succ]
  refine wpT_take (i := 4) (v := ?_) rfl (by kernel_rfl) (by kernel_rfl) (by kernel_rfl) (by kernel_rfl) (fun _ _ _ h => h) (Or.inl ⟨by rfl, ?_⟩) HSd.out ?_
  rotate_left
  · (intro wq hSw; obtain ⟨q0, q1, q2, q3, q4, q5, q6, q7, q8, q9, q10, q11, q12, q13⟩ := hSw; go_simp; all_goals (first | (with_reducible rfl) | (rw [if_neg (by first | omega | (simp; omega) | (simp only [List.length_append, List.length_cons, List.length_nil]; omega))])))
  simp only [List.getElem_toArray, List.getElem_cons_succ, List.getElem_cons_zero, Act.put, List.setIfInBounds_toArray, List.set_cons_zero, List.set_cons_succ]
  refine wpT_take (i := 7) (v := ?_) rfl (by kernel_rfl) (by kernel_rfl) (by kernel_rfl) (by kernel_rfl) (fun _ _ _ h => h) (Or.inl ⟨by rfl, ?_⟩) HSd.out ?_
  rotate_left
  · (intro wq hSw; obtain ⟨q0, q1, q2, q3, q4, q5, q6, q7, q8, q9, q10, q11, q12, q13⟩ := hSw; go_simp; all_goals (first | (with_reducible rfl) | (rw [if_neg (by first | omega | (simp; omega) | (simp only [List.length_append, List.length_cons, List.length_nil]; omega))])))
  simp only [List.getElem_toArray, List.getElem_cons_succ, List.getElem_cons_zero, Act.put, List.setIfInBounds_toArray, List.set_cons_zero, List.set_cons_succ]
  refine wpT_take (i := 8) (v := ?_) rfl (by kernel_rfl) (by kernel_rfl) (by kernel_rfl) (by kernel_rfl) (fun _ _ _ h => h) (Or.inl ⟨by rfl, ?_⟩) HSd.out ?_
  rotate_left
  · (intro wq hSw; obtain ⟨q0, q1, q2, q3, q4, q5, q6, q7, q8, q9, q10, q11, q12, q13⟩ := hSw; go_simp; all_goals (first | (with_reducible rfl) | (rw [if_neg (by first | omega | (simp; omega) | (simp only [List.length_append, List.length_cons, List.length_nil]; omega))])))
  simp only [List.getElem_toArray, List.getElem_cons_succ, List.getElem_cons_zero, Act.put, List.setIfInBounds_toArray, List.set_cons_zero, List.set_cons_succ]
  refine wpT_take (i := 11) (v := ?_) rfl (by kernel_rfl) (by kernel_rfl) (by kernel_rfl) (by kernel_rfl) (fun _ _ _ h => h) (Or.inl ⟨by rfl, ?_⟩) HSd.out ?_
  rotate_left
  · (intro wq hSw; obtain ⟨q0, q1, q2, q3, q4, q5, q6, q7, q8, q9, q10, q11, q12, q13⟩ := hSw; go_simp; all_goals (first | (with_reducible rfl) | (rw [if_neg (by first | omega | (simp; omega) | (simp only [List.length_append, List.length_cons, List.length_nil]; omega))])))
  simp only [List.getElem_toArray, List.getElem_cons_succ, List.getElem_cons_zero, Act.put, List.setIfInBounds_toArray, List.set_cons_zero, List.set_cons_succ]
  refine wpT_take (i := 12) (v := ?_) rfl (by kernel_rfl) (by kernel_rfl) (by kernel_rfl) (by kernel_rfl) (fun _ _ _ h => h) (Or.inl ⟨by rfl, ?_⟩) HSd.out ?_
  rotate_left
  · (intro wq hSw; obtain ⟨q0, q1, q2, q3, q4, q5, q6, q7, q8, q9, q10, q11, q12, q13⟩ := hSw; go_simp; all_goals (first | (with_reducible rfl) | (rw [if_neg (by first | omega | (simp; omega) | (simp only [List.length_append, List.length_cons, List.length_nil]; omega))])))
  simp only [List.getElem_toArray, List.getElem_cons_succ, List.getElem_cons_zero, Act.put, List.setIfInBounds_toArray, List.set_cons_zero, List.set_cons_succ]
  refine wpT_take (i := 13) (v := ?_) rfl (by kernel_rfl) (by kernel_rfl) (by kernel_rfl) (by kernel_rfl) (fun _ _ _ h => h) (Or.inl ⟨by rfl, ?_⟩) HSd.out ?_
  rotate_left
  · (intro wq hSw; obtain ⟨q0, q1, q2, q3, q4, q5, q6, q7, q8, q9, q10, q11, q12, q13⟩ := hSw; go_simp; all_goals (first | (with_reducible rfl) | (rw [if_neg (by first | omega | (simp; omega) | (simp only [List.length_append, List.length_cons, List.length_nil]; omega))])))
  simp only [List.getElem_toArray, List.getElem_cons_succ, List.getElem_cons_zero, Act.put, List.setIfInBounds_toArray, List.set_cons_zero, List.set_cons_succ]
  refine wpT_take (i := 14) (v := ?_) rfl (by kernel_rfl) (by kernel_rfl) (by kernel_rfl) (by kernel_rfl) (fun _ _ _ h => h) (Or.inl ⟨by rfl, ?_⟩) HSd.out ?_
  rotate_left
  · (intro wq hSw; obtain ⟨q0, q1, q2, q3, q4, q5, q6, q7, q8, q9, q10, q11, q12, q13⟩ := hSw; go_simp; all_goals (first | (with_reducible rfl) | (rw [if_neg (by first | omega | (simp; omega) | (simp only [List.length_append, List.length_cons, List.length_nil]; omega))])))
  simp only [List.getElem_toArray, List.getElem_cons_succ, List.getElem_cons_zero, Act.put, List.setIfInBounds_toArray, List.set_cons_zero, List.set_cons_succ]
  refine wpT_take (i := 15) (v := ?_) rfl (by kernel_rfl) (by kernel_rfl) (by kernel_rfl) (by kernel_rfl) (fun _ _ _ h => h) (Or.inl ⟨by rfl, ?_⟩) HSd.out ?_
  rotate_left
  · (intro wq hSw; obtain ⟨q0, q1, q2, q3, q4, q5, q6, q7, q8, q9, q10, q11, q12, q13⟩ := hSw; go_simp; all_goals (first | (with_reducible rfl) | (rw [if_neg (by first | omega | (simp; omega) | (simp only [List.length_append, List.length_cons, List.length_nil]; omega))])))
  simp only [List.getElem_toArray, List.getElem_cons_succ, List.getElem_cons_zero, Act.put, List.setIfInBounds_toArray, List.set_cons_zero, List.set_cons_succ]
  refine wpT_take (i := 16) (v := ?_) rfl (by kernel_rfl) (by kernel_rfl) (by kernel_rfl) (by kernel_rfl) (fun _ _ _ h => h) (Or.inl ⟨by rfl, ?_⟩) HSd.out ?_
  rotate_left
  · (intro wq hSw; obtain ⟨q0, q1, q2, q3, q4, q5, q6, q7, q8, q9, q10, q11, q12, q13⟩ := hSw; go_simp; all_goals (first | (with_reducible rfl) | (rw [if_neg (by first | omega | (simp; omega) | (simp only [List.length_append, List.length_cons, List.length_nil]; omega))])))
  simp only [List.getElem_toArray, List.getElem_cons_succ, List.getElem_cons_zero, Act.put, List.setIfInBounds_toArray, List.set_cons_zero, List.set_cons_succ]
  refine wpT_one (i := 5) rfl (by kernel_rfl) fun K hK => ?_
  go_simp
  refine (HCD.out).mono ?_
  rintro e w1 ⟨rfl, hq⟩
  have hb1 := chain (Below.refl W.heap.size W).drew hq
  clear hq
  refine hK.out _ _ (fun _ => HSB.out _ hb1) ?_
  clear hK K
  try simp only [List.getElem_toArray, List.getElem_cons_succ, List.getElem_cons_zero, Act.put, List.setIfInBounds_toArray, List.set_cons_zero, List.set_cons_succ]
  refine wpT_take (i := 6) (v := ?_) rfl (by kernel_rfl) (by kernel_rfl) (by kernel_rfl) (by kernel_rfl) (fun _ _ _ h => h) (Or.inl ⟨by rfl, ?_⟩) (HSB.out _ hb1) ?_
  rotate_left
  · (intro wq hSw; obtain ⟨q0, q1, q2, q3, q4, q5, q6, q7, q8, q9, q10, q11, q12, q13⟩ := hSw; go_simp; all_goals (first | (with_reducible rfl) | (rw [if_neg (by first | omega | (simp; omega) | (simp only [List.length_append, List.length_cons, List.length_nil]; omega))])))
  simp only [List.getElem_toArray, List.getElem_cons_succ, List.getElem_cons_zero, Act.put, List.setIfInBounds_toArray, List.set_cons_zero, List.set_cons_succ]
  refine wpT_take (i := 9) (v := ?_) rfl (by kernel_rfl) (by kernel_rfl) (by kernel_rfl) (by kernel_rfl) (fun _ _ _ h => h) (Or.inl ⟨by rfl, ?_⟩) (HSB.out _ hb1) ?_
  rotate_left
  · (intro wq hSw; obtain ⟨q0, q1, q2, q3, q4, q5, q6, q7, q8, q9, q10, q11, q12, q13⟩ := hSw; go_simp; all_goals (first | (with_reducible rfl) | (rw [if_neg (by first | omega | (simp; omega) | (simp only [List.length_append, List.length_cons, List.length_nil]; omega))])))
  simp only [List.getElem_toArray, List.getElem_cons_succ, List.getElem_cons_zero, Act.put, List.setIfInBounds_toArray, List.set_cons_zero, List.set_cons_succ]
  refine wpT_take (i := 10) (v := ?_) rfl (by kernel_rfl) (by kernel_rfl) (by kernel_rfl) (by kernel_rfl) (fun _ _ _ h => h) (Or.inl ⟨by rfl, ?_⟩) (HSB.out _ hb1) ?_
  rotate_left
  · (intro wq hSw; obtain ⟨q0, q1, q2, q3, q4, q5, q6, q7, q8, q9, q10, q11, q12, q13⟩ := hSw; go_simp; all_goals (first | (with_reducible rfl) | (rw [if_neg (by first | omega | (simp; omega) | (simp only [List.length_append, List.length_cons, List.length_nil]; omega))])))
  simp only [List.getElem_toArray, List.getElem_cons_succ, List.getElem_cons_zero, Act.put, List.setIfInBounds_toArray, List.set_cons_zero, List.set_cons_succ]
  refine wpT_one (i := 17) rfl (by kernel_rfl) fun K hK => ?_
  go_simp
  rw [HWR.out]
  refine (hcall2.out w1 (chain hba hb1)).mono ?_
  rintro e w2 ⟨rfl, hq⟩
  have hb2 := chain hb1 hq
  clear hq
  refine hK.out _ _ (fun _ => HSB.out _ hb2) ?_
  clear hK K
  try simp only [List.getElem_toArray, List.getElem_cons_succ, List.getElem_cons_zero, Act.put, List.setIfInBounds_toArray, List.set_cons_zero, List.set_cons_succ]
  refine wpT_take (i := 18) (v := ?_) rfl (by kernel_rfl) (by kernel_rfl) (by kernel_rfl) (by kernel_rfl) (fun _ _ _ h => h) (Or.inl ⟨by rfl, ?_⟩) (HSB.out _ hb2) ?_
  rotate_left
  · (intro wq hSw; obtain ⟨q0, q1, q2, q3, q4, q5, q6, q7, q8, q9, q10, q11, q12, q13⟩ := hSw; go_simp; all_goals (first | (with_reducible rfl) | (rw [if_neg (by first | omega | (simp; omega) | (simp only [List.length_append, List.length_cons, List.length_nil]; omega))])))
  simp only [List.getElem_toArray, List.getElem_cons_succ, List.getElem_cons_zero, Act.put, List.setIfInBounds_toArray, List.set_cons_zero, List.set_cons_succ]
  refine wpT_one (i := 19) rfl (by kernel_rfl) fun K hK => ?_
  go_simp
  refine hK.out _ _ (fun h => absurd h (by decide)) ?_
  clear hK K
  try simp only [List.getElem_toArray, List.getElem_cons_succ, List.getElem_cons_zero, Act.put, List.setIfInBounds_toArray, List.set_cons_zero, List.set_cons_succ]
  refine wpT_done (by kernel_rfl) ?_
  obtain ⟨T, hT⟩ : ∃ T, T1 ++ 32 :: (n ++ 32 :: T2) = T := ⟨_, rfl⟩
  have hTl : T.length ≤ 10000000000 := by rw [← hT]; simp; omega
  have q1 : ¬ 9223372036854775807 < 1 + T.length := by omega
  have q2 : ¬ 9223372036854775807 < 1 + T.length + 1 := by omega
  have q3 : ¬ 9223372036854775807 < T.length + 1 + 1 := by omega
  have q4 : ¬ 9223372036854775807 < T.length + 1 := by omega
  have HRT : Hid (R = paren (decide (level n < a)) T) := by
    show _ = _
    rw [HR.out, ← hT]
    congr 1
    simp
  rw [hT]
  clear hT hTl HR
  by_cases hla : level n < a
  · go_wp2_with fail
    go_ret
    exact ⟨by rw [HRT.out, decide_eq_true (by omega)]; rfl, chain hba hb2⟩
  · go_wp2_with fail
    go_ret
    exact ⟨by rw [HRT.out, decide_eq_false (by omega)]; rfl, chain hba hb2⟩
theorem write_any : ∀ (m : Nat), WIH m := by
  intro m
  induction m with
  | zero => intro t v a w h; cases t; simp only [eparts] at h; omega
  | succ m ih =>
  intro t v a w hm hm2 hv hf hg ha1 ha2 hT hP
  rcases good_cases hg with ⟨s, vn, x, rfl, hc⟩ | ⟨n, s, vn, x, rfl⟩ | ⟨n, s, vn, x, c, rfl, hl, h1⟩ | ⟨n, s, vn, x, c, d, rfl, hl, h1, h2⟩
  · exact write_lit s vn x v a w hv hf hc hT hP
  · exact write_name n s vn x v a w hv
  · exact write_one m ih n s vn x c v a w hm hm2 hv hf hl h1 hT hP
  · exact write_two m ih n s vn x c d v a w hm hm2 hv hf hl h1 h2 ha1 ha2 hT hP
end Go.Proofs.YtmklodgcbldndaaDoor
namespace Go.Proofs.YtmklodgcbldndaaDoor
open Go.RowKit Go.Proofs

set_option maxRecDepth 100000
mutual
theorem chkE_parts : ∀ (t : Ex) (l : Int), (chkE t l).1 = 0 → (chkE t l).2 + eparts t = l
  | .mk k n s v x ks, l, h => by
    unfold chkE at h ⊢
    split at h
    · simp at h
    · rename_i h0
      rw [if_neg h0]
      split at h
      · rename_i h9
        rw [if_pos h9]
        have := chkEs_parts ks (l - 1) h
        simp only [eparts]
        omega
      · rename_i h9
        rw [if_neg h9]
        have : ks = [] := exOne_9 h9 h
        subst this
        simp only [eparts, epartss]
        omega
theorem chkEs_parts : ∀ (ks : List Ex) (l : Int), (chkEs ks l).1 = 0 → (chkEs ks l).2 + epartss ks = l
  | [], l, _ => by simp [chkEs, epartss]
  | k :: r, l, h => by
    unfold chkEs at h ⊢
    split at h
    · rename_i h0
      rw [if_pos h0]
      have h1 := chkE_parts k l h0
      have h2 := chkEs_parts r _ h
      simp only [epartss]
      omega
    · rename_i h0
      exact absurd h h0
end
theorem eparts_ok {t : Ex} (h : exErr t = 0) : eparts t ≤ 60 := by
  have h1 := chkE_parts t 60 h
  have h2 := (chkE_le t 60).2 h (by omega)
  omega
theorem wtxt_zero (t : Ex) : wtxt 0 t = txtE t := by
  have := (level_lt t.name).1
  unfold wtxt
  rw [decide_eq_false (by omega)]
  rfl
set_option maxHeartbeats 1000000 in
theorem eWrite_bad (t : Ex) (v : Value) (w : World) {D : Blocks} (hv : ExV D w v t) (hf : ExFit 1048576 t) (hT : Tabs w) (E : Int) (hE : exErr t = E) (h0 : E ≠ 0) :
    Calls Tryd.prog 6 #[v] w fun e w' => e = .returned (.tuple #[.string ⟨#[]⟩, .int .i64 E]) ∧ Below w.heap.size w w' := by
  have HZ := Lib.hid hv
  obtain ⟨A, L, cap, rfl, hk⟩ := hv.one'
  have HE := Lib.hid hE
  have hb : (E != 0) = true := by rw [bne_iff_ne]; exact h0
  clear h0 hE hk hv
  go_enter Tryd.func6, Tryd.ntmps6
  go_wp2_with fail
  refine (eCheck_any t _ _ (HZ.out.below (by go_grown)) hf (hT.below (by go_grown))).mono ?_; rw [HE.out]; rintro e w1 ⟨rfl, hb1⟩
  go_wp2_with fail
  exact bodyPost_ret (v := .tuple #[.string ⟨#[]⟩, .int .i64 E]) (by simp [results, Tryd.results6, go_sem]) rfl ⟨rfl, by first | exact hb1 | exact chain (by go_grown) hb1⟩
set_option maxHeartbeats 1000000 in
theorem eWrite_ok (t : Ex) (v : Value) (w : World) {D : Blocks} (hv : ExV D w v t) (hf : ExFit 1048576 t) (hT : Tabs w) (hP : PowTab w) (hE : exErr t = 0) :
    Calls Tryd.prog 6 #[v] w fun e w' => e = .returned (.tuple #[.string ⟨(txtE t).toArray⟩, .int .i64 0]) ∧ Below w.heap.size w w' := by
  have HZ := Lib.hid hv.all
  obtain ⟨A, L, cap, rfl, hk⟩ := hv.one'
  have HE := Lib.hid hE
  have hg := goodE_of t 60 hE
  have hp := eparts_ok hE
  have HZT := Lib.hid (wtxt_zero t)
  clear hE hk hv
  go_enter Tryd.func6, Tryd.ntmps6
  go_wp2_with fail
  obtain ⟨W, hW⟩ : ∃ W, w.alloc (.cells #[.int .i64 t.kind, .string ⟨t.name.toArray⟩, .int .i64 t.vs, .int .i64 t.vn, .string ⟨t.vt.toArray⟩, .slice A L cap] 26) = W := ⟨_, rfl⟩
  have hbx : ExBox W w.heap.size t (.slice A L cap) := by subst hW; exact new_exval w t (.slice A L cap) 26
  have hb0 : Below w.heap.size w W := by subst hW; exact (Below.refl _ _).alloc (Nat.le_refl _) _
  try rw [hW]
  clear hW
  refine (eCheck_any t _ _ (HZ.out.below hb0) hf (hT.below hb0)).mono ?_; rw [HE.out]; rintro e w1 ⟨rfl, hb1⟩
  obtain ⟨b0, b1, b2, b3, b4, b5, b6, b7⟩ := hbx.keep hb1 hbx.lt
  have hb2 := chain hb0 hb1
  clear hbx
  go_wp2_with fail
  have hwr := write_any (eparts t) t (.agg #[.int .i64 t.kind, .string ⟨t.name.toArray⟩, .int .i64 t.vs, .int .i64 t.vn, .string ⟨t.vt.toArray⟩, .slice A L cap]) 0 w1 (Nat.le_refl _) (by omega) (HZ.out.below hb2) hf hg (by omega) (by omega) (hT.below hb2) (hP.below hb2)
  unfold WSays at hwr
  rw [HZT.out] at hwr
  refine hwr.mono ?_; clear hwr; rintro e w2 ⟨rfl, hb3⟩
  go_wp2_with fail
  exact bodyPost_ret (v := .tuple #[.string ⟨(txtE t).toArray⟩, .int .i64 0]) (by simp [results, Tryd.results6, go_sem]) rfl ⟨rfl, chain hb2 hb3⟩
end Go.Proofs.YtmklodgcbldndaaDoor
