/-
  The program's writer of values: escaped, Write.
  Big numbers out of a text: SetString; the reference's Number.
  The reference's Number.
  The reference's text of a value.
  The reference's Value, Order, Length; values.Order with its comparisons.
-/
import Derived.Test.YtmklodgcbldndaaDoorM5
import Derived.Lib.AppendIntMem
import Derived.Test.YtmklodgcbldndaaDoorM4
import Derived.Test.YtmklodgcbldndaaDoorM3
import Derived.Laws.StructEq
import Derived.Deep.RegionHeld3
import Derived.Deep.DrawnRows
namespace Go.Proofs.YtmklodgcbldndaaDoor
open Go.RowKit Go.Proofs

set_option maxRecDepth 100000
/-- One byte, escaped. -/
def escB (b : UInt8) : Str := if b = 10 then [92, 110] else if b = 92 ∨ b = 34 then [92, b] else [b]
theorem esc_snoc (l : Str) (b : UInt8) : esc (l ++ [b]) = esc l ++ escB b := by simp [esc, escB]
theorem take_snoc {l : Str} {k : Nat} {x : UInt8} (h : l[k]? = some x) : l.take (k + 1) = l.take k ++ [x] := by
  rw [List.take_add_one, h]; rfl
theorem escB_len (b : UInt8) : 1 ≤ (escB b).length ∧ (escB b).length ≤ 2 := by
  unfold escB
  split
  · simp
  · split <;> simp
theorem esc_len (l : Str) : (esc l).length ≤ 2 * l.length := by
  induction l with
  | nil => simp [esc]
  | cons b l ih =>
    have : esc (b :: l) = escB b ++ esc l := rfl
    rw [this, List.length_append, List.length_cons]
    have := (escB_len b).2
    omega
theorem u8z {x : UInt8} {k : Nat} (h : x ≠ UInt8.ofNat k) (hk : k < 256) : (x.toNat : Int) ≠ (k : Int) := by
  intro e
  apply h
  have e' : x.toNat = k := by omega
  rw [← e', UInt8.ofNat_toNat]
theorem isBld_new (w : World) : IsBld w.heap.size w.heap.size [] (w.alloc (.cells #[.pointer none, .slice none 0 0] 78)) :=
  Or.inl ⟨Nat.le_refl _, .slice none 0 0, (by show (w.heap.push _)[w.heap.size]? = _; rw [Array.getElem?_push_size]), World.ownsRow_nil _ _ _ _, by simp [Value.ownBlock]⟩
set_option maxHeartbeats 1000000 in
theorem escaped_any (t : Str) (w : World) (ht : t.length ≤ 1048576) :
    Calls Tryd.prog 28 #[.string ⟨t.toArray⟩] w fun e w' => e = .returned (.string ⟨(esc t).toArray⟩) ∧ Below w.heap.size w w' := by
  have h0 := Lib.hid (isBld_new w)
  have hb0 : Below w.heap.size w (w.alloc (.cells #[.pointer none, .slice none 0 0] 78)) := by go_grown
  obtain ⟨L, hL⟩ : ∃ L, t.length = L := ⟨_, rfl⟩
  have HL := Lib.hid hL
  rw [hL] at ht
  go_enter Tryd.func28, Tryd.ntmps28
  go_wp2_with fail
  generalize hW : w.alloc (.cells #[.pointer none, .slice none 0 0] 78) = W at *
  clear hW
  go_loopw [8] (fun i wr => ∃ j : Nat, j ≤ L ∧ i = .int .i64 j ∧ Hid (IsBld w.heap.size w.heap.size (esc (t.take j)) wr) ∧ Below w.heap.size w wr) (fun i _ => L - (intOf i).toNat)
  case atStart => exact ⟨0, Nat.zero_le _, rfl, h0, hb0⟩
  case round =>
    clear h0 hb0
    obtain ⟨j, hj, rfl, hB, hb⟩ := hrel
    by_cases hlt : j < L
    · have hltZ : (j : Int) < (L : Int) := by omega
      obtain ⟨x, hx⟩ : ∃ x, t[j]? = some x := ⟨_, List.getElem?_eq_getElem (by rw [HL.out]; exact hlt)⟩
      have HX := Lib.hid hx
      have hlt2 : j < t.length := by rw [HL.out]; exact hlt
      have E : ((⟨t.toArray⟩ : ByteArray)[j]'(by simpa [ByteArray.size] using hlt2)).toNat = x.toNat := by rw [byte_at' HX.out]
      have hes := Lib.hid (esc_snoc (t.take j) x)
      have hln : (esc (t.take j)).length ≤ 2 * j := by have := esc_len (t.take j); rw [List.length_take] at this; omega
      have HT := Lib.hid (take_snoc hx)
      have hsz := hb.size
      clear hx
      by_cases h10 : x = 10
      · subst h10
        go_wp2_with fail
        refine (writeString_any _ _ _ [92, 110] _ hB.out (by simp; omega) hsz).mono ?_
        rintro e w1 ⟨rfl, h1, hb1⟩
        replace h1 := Lib.hid h1
        go_wp2_with fail
        go_roundw
        case rel =>
          refine ⟨j + 1, by omega, by go_num, Lib.hid ?_, hb.trans hb1⟩
          rw [HT.out, hes.out]
          exact h1.out
        case measure => simp [intOf] <;> omega
      · have n10 : (x.toNat : Int) ≠ 10 := u8z h10 (by decide)
        by_cases h92 : x = 92 ∨ x = 34
        · have he : escB x = [92] ++ [x] := by unfold escB; rw [if_neg h10, if_pos h92]; rfl
          rw [he] at hes
          rcases h92 with rfl | rfl
          · clear he n10 h10
            go_wp2_with fail
            refine (writeByte_any _ _ _ 92 _ hB.out (by omega) hsz).mono ?_
            rintro e w1 ⟨rfl, h1, hb1⟩
            replace h1 := Lib.hid h1
            go_wp2_with fail
            refine (writeByte_any _ _ _ 92 _ h1.out (by rw [List.length_append, List.length_singleton]; omega) (Nat.le_trans hsz hb1.size)).mono ?_
            rintro e w2 ⟨rfl, h2, hb2⟩
            replace h2 := Lib.hid h2
            clear h1
            go_wp2_with fail
            go_roundw
            case rel =>
              refine ⟨j + 1, by omega, by go_num, Lib.hid ?_, (hb.trans hb1).trans hb2⟩
              rw [HT.out, hes.out]
              rw [← List.append_assoc]
              exact h2.out
            case measure => simp [intOf] <;> omega
          · clear he n10 h10
            go_wp2_with fail
            refine (writeByte_any _ _ _ 92 _ hB.out (by omega) hsz).mono ?_
            rintro e w1 ⟨rfl, h1, hb1⟩
            replace h1 := Lib.hid h1
            go_wp2_with fail
            refine (writeByte_any _ _ _ 34 _ h1.out (by rw [List.length_append, List.length_singleton]; omega) (Nat.le_trans hsz hb1.size)).mono ?_
            rintro e w2 ⟨rfl, h2, hb2⟩
            replace h2 := Lib.hid h2
            clear h1
            go_wp2_with fail
            go_roundw
            case rel =>
              refine ⟨j + 1, by omega, by go_num, Lib.hid ?_, (hb.trans hb1).trans hb2⟩
              rw [HT.out, hes.out]
              rw [← List.append_assoc]
              exact h2.out
            case measure => simp [intOf] <;> omega
        · have hq : x ≠ 92 ∧ x ≠ 34 := ⟨fun e => h92 (.inl e), fun e => h92 (.inr e)⟩
          have n92 : (x.toNat : Int) ≠ 92 := u8z hq.1 (by decide)
          have n34 : (x.toNat : Int) ≠ 34 := u8z hq.2 (by decide)
          have he : escB x = [x] := by unfold escB; rw [if_neg h10, if_neg h92]
          rw [he] at hes
          clear h92 hq h10 he
          go_wp2_with fail
          refine (writeByte_any _ _ _ x _ hB.out (by omega) hsz).mono ?_
          rintro e w1 ⟨rfl, h1, hb1⟩
          replace h1 := Lib.hid h1
          go_wp2_with fail
          go_roundw
          case rel =>
            refine ⟨j + 1, by omega, by go_num, Lib.hid ?_, hb.trans hb1⟩
            rw [HT.out, hes.out]
            exact h1.out
          case measure => simp [intOf] <;> omega
    · obtain rfl : j = L := by omega
      have e : t.take j = t := List.take_of_length_le (by rw [HL.out]; exact Nat.le_refl _)
      rw [e] at hB
      go_wp2_with fail
      refine (Tryd.Builder_String_any _ _ _ _ hB.out hb.size).mono ?_
      rintro e w1 ⟨rfl, hb1⟩
      go_wp2_with fail
      go_ret
      exact ⟨rfl, hb.trans hb1⟩
theorem app_list (a b : List UInt8) : (⟨a.toArray⟩ : ByteArray) ++ ⟨b.toArray⟩ = ⟨(a ++ b).toArray⟩ := by
  rw [str_data ((⟨a.toArray⟩ : ByteArray) ++ ⟨b.toArray⟩)]
  simp [ByteArray.data_append]
theorem cat3 (a b c : Str) : ((⟨a.toArray⟩ : ByteArray) ++ ⟨b.toArray⟩ ++ ⟨c.toArray⟩) = ⟨(a ++ (b ++ c)).toArray⟩ := by
  rw [app_list, app_list, List.append_assoc]
/-- strconv's table, which outlives new memory. -/
abbrev PowTab (w : World) : Prop := Lib.TabIs Tryd.prog w "internal/strconv.uint64pow10" .u64 Lib.pow10Tab
theorem PowTab.below {w w' : World} (h : PowTab w) (hb : Below w.heap.size w w') : PowTab w' := Lib.tabBelow_of_tabIs h w' hb
set_option maxHeartbeats 1000000 in
theorem vwrite_ok (s n : Int) (t : Str) (w : World) (hc : vchk s n t = 0) (ht : t.length ≤ 1048576) (h1 : -9223372036854775808 ≤ n) (h2 : n ≤ 9223372036854775807) (hT : Tabs w) (hP : PowTab w) :
    Calls Tryd.prog 14 #[.agg #[.int .i64 s, .int .i64 n, .string ⟨t.toArray⟩]] w fun e w' => e = .returned (.tuple #[.string ⟨(vtxt s n t).toArray⟩, .int .i64 0]) ∧ Below w.heap.size w w' := by
  have hbW : Below w.heap.size w (w.alloc (.cells #[.int .i64 s, .int .i64 n, .string ⟨t.toArray⟩] 23)) := by go_grown
  have hck := vcheck_any s n (w.alloc (.cells #[.int .i64 s, .int .i64 n, .string ⟨t.toArray⟩] 23)) t (by omega) (hT.below hbW)
  have c0 : (w.alloc (.cells #[.int .i64 s, .int .i64 n, .string ⟨t.toArray⟩] 23)).cell? ⟨w.heap.size, 0, none⟩ = some (.int .i64 s) := by simp [go_sem]
  have c1 : (w.alloc (.cells #[.int .i64 s, .int .i64 n, .string ⟨t.toArray⟩] 23)).cell? ⟨w.heap.size, 1, none⟩ = some (.int .i64 n) := by simp [go_sem]
  have c2 : (w.alloc (.cells #[.int .i64 s, .int .i64 n, .string ⟨t.toArray⟩] 23)).cell? ⟨w.heap.size, 2, none⟩ = some (.string ⟨t.toArray⟩) := by simp [go_sem]
  have HCC := Lib.hid (And.intro c0 (And.intro c1 c2))
  clear c0 c1 c2
  have HCK := Lib.hid hck
  rw [hc] at HCK
  have HC := Lib.hid hc
  clear hck hc
  have hs : (s = 3 ∧ n = 0) ∨ s = 1 ∨ (s = 2 ∧ (n = 0 ∨ n = 1)) := by
    have := HC.out
    unfold vchk at this
    split at this
    · exact .inl (by assumption)
    · split at this
      · rename_i h
        exact .inr h.2
      · omega
  rcases hs with ⟨rfl, rfl⟩ | rfl | ⟨rfl, hn⟩
  · obtain ⟨R, hR⟩ : ∃ R, vtxt 3 0 t = R := ⟨_, rfl⟩
    have HR : Hid (34 :: (esc t ++ [34]) = R) := hR
    rw [hR]
    clear hR
    go_enter Tryd.func14, Tryd.ntmps14
    go_wp2_with fail
    refine HCK.out.mono ?_
    rintro e w1 ⟨rfl, hb1⟩
    have HB1 := Lib.hid hb1
    replace hb1 := chain hbW hb1
    obtain ⟨q0, q1, q2⟩ := HCC.out
    have k0 := cell_keep q0 HB1.out
    have k1 := cell_keep q1 HB1.out
    have k2 := cell_keep q2 HB1.out
    clear q0 q1 q2 HCC
    go_wp2_with fail
    refine (escaped_any t w1 ht).mono ?_
    rintro e w2 ⟨rfl, hb2⟩
    have hel := esc_len t
    have q1 : ¬ 9223372036854775807 < 1 + (esc t).length := by omega
    have q2 : ¬ 9223372036854775807 < 1 + (esc t).length + 1 := by omega
    go_wp2_with fail
    go_ret2
    exact ⟨by rw [← HR.out]; exact congrArg (fun x => Ending.returned (.tuple #[.string x, .int .i64 0])) (cat3 [34] (esc t) [34]), chain hb1 hb2⟩
  · obtain ⟨R, hR⟩ : ∃ R, vtxt 1 n t = R := ⟨_, rfl⟩
    have HR : Hid (Lib.itoa n = R) := hR
    rw [hR]
    clear hR
    go_enter Tryd.func14, Tryd.ntmps14
    go_wp2_with fail
    refine HCK.out.mono ?_
    rintro e w1 ⟨rfl, hb1⟩
    have HB1 := Lib.hid hb1
    replace hb1 := chain hbW hb1
    obtain ⟨q0, q1, q2⟩ := HCC.out
    have k0 := cell_keep q0 HB1.out
    have k1 := cell_keep q1 HB1.out
    have k2 := cell_keep q2 HB1.out
    clear q0 q1 q2 HCC
    go_wp2_with fail
    refine (Tryd.strconv_FormatInt_10 n h1 h2 w1 (hP.below hb1)).mono ?_
    rintro e w2 ⟨rfl, k, os, hw2⟩
    have hb2 : Below w1.heap.size w1 w2 := by rw [hw2]; exact Lib.below_grow _ _ (Nat.le_refl _) _ _
    clear hw2
    go_wp2_with fail
    go_ret2
    exact ⟨by rw [← HR.out]; rfl, chain hb1 hb2⟩
  · rcases hn with rfl | rfl
    all_goals
      go_enter Tryd.func14, Tryd.ntmps14
      go_wp2_with fail
      refine HCK.out.mono ?_
      rintro e w1 ⟨rfl, hb1⟩
      have HB1 := Lib.hid hb1
      replace hb1 := chain hbW hb1
      obtain ⟨q0, q1, q2⟩ := HCC.out
      have k0 := cell_keep q0 HB1.out
      have k1 := cell_keep q1 HB1.out
      have k2 := cell_keep q2 HB1.out
      clear q0 q1 q2 HCC
      go_wp2_with fail
      refine (Tryd.strconv_FormatBool _ w1).mono ?_
      rintro e w2 ⟨rfl, rfl⟩
      go_wp2_with fail
      go_ret2
      exact ⟨rfl, hb1⟩
set_option maxHeartbeats 1000000 in
theorem vwrite_bad (s n : Int) (t : Str) (w : World) (hc : vchk s n t ≠ 0) (ht : t.length ≤ 1048576) (hT : Tabs w) :
    Calls Tryd.prog 14 #[.agg #[.int .i64 s, .int .i64 n, .string ⟨t.toArray⟩]] w fun e w' => e = .returned (.tuple #[.string ⟨#[]⟩, .int .i64 (vchk s n t)]) ∧ Below w.heap.size w w' := by
  have hbW : Below w.heap.size w (w.alloc (.cells #[.int .i64 s, .int .i64 n, .string ⟨t.toArray⟩] 23)) := by go_grown
  have hck := vcheck_any s n (w.alloc (.cells #[.int .i64 s, .int .i64 n, .string ⟨t.toArray⟩] 23)) t (by omega) (hT.below hbW)
  have c0 : (w.alloc (.cells #[.int .i64 s, .int .i64 n, .string ⟨t.toArray⟩] 23)).cell? ⟨w.heap.size, 0, none⟩ = some (.int .i64 s) := by simp [go_sem]
  have c1 : (w.alloc (.cells #[.int .i64 s, .int .i64 n, .string ⟨t.toArray⟩] 23)).cell? ⟨w.heap.size, 1, none⟩ = some (.int .i64 n) := by simp [go_sem]
  have c2 : (w.alloc (.cells #[.int .i64 s, .int .i64 n, .string ⟨t.toArray⟩] 23)).cell? ⟨w.heap.size, 2, none⟩ = some (.string ⟨t.toArray⟩) := by simp [go_sem]
  have HCC := Lib.hid (And.intro c0 (And.intro c1 c2))
  clear c0 c1 c2
  have HCK := Lib.hid hck
  clear hck
  generalize vchk s n t = R at *
  go_enter Tryd.func14, Tryd.ntmps14
  go_wp2_with fail
  refine HCK.out.mono ?_
  rintro e w1 ⟨rfl, hb1⟩
  have HB1 := Lib.hid hb1
  replace hb1 := chain hbW hb1
  obtain ⟨q0, q1, q2⟩ := HCC.out
  have k0 := cell_keep q0 HB1.out
  have k1 := cell_keep q1 HB1.out
  have k2 := cell_keep q2 HB1.out
  clear q0 q1 q2 HCC
  go_wp2_with fail
  go_ret2
  exact ⟨rfl, hb1⟩
end Go.Proofs.YtmklodgcbldndaaDoor
namespace Go.Proofs.YtmklodgcbldndaaDoor
open Go.RowKit Go.Proofs

set_option maxRecDepth 100000
theorem decFrom_step {l : Str} {j n d : Nat} {x : UInt8} (hx : l[j]? = some x) (hn : Lib.decFrom 0 (l.take j) = some n) (hd : Lib.digitVal x = some d) : Lib.decFrom 0 (l.take (j + 1)) = some (n * 10 + d) := by
  rw [take_snoc hx]
  exact decFrom_snoc _ _ _ _ _ hn hd
theorem decFrom_bad : ∀ (l : Str) (acc : Nat) (j : Nat) (x : UInt8), l[j]? = some x → Lib.digitVal x = none → Lib.decFrom acc l = none := by
  intro l
  induction l with
  | nil => intro acc j x h; simp at h
  | cons b r ih =>
    intro acc j x h hx
    rw [Lib.decFrom]
    cases j with
    | zero =>
      simp at h
      subst h
      rw [hx]
    | succ j =>
      simp at h
      split
      · exact ih _ j x h hx
      · rfl
theorem decFrom_lt10 : ∀ (l : Str) (acc n : Nat), Lib.decFrom acc l = some n → n < (acc + 1) * 10 ^ l.length := by
  intro l
  induction l with
  | nil =>
    intro acc n h
    simp [Lib.decFrom] at h
    subst h
    simp
  | cons b r ih =>
    intro acc n h
    rw [Lib.decFrom] at h
    split at h
    · rename_i d hd
      have := ih _ _ h
      have hd9 : d ≤ 9 := by
        unfold Lib.digitVal at hd
        split at hd
        · injection hd with hd; omega
        · cases hd
      rw [List.length_cons, Nat.pow_succ]
      have h2 : (acc * 10 + d + 1) * 10 ^ r.length ≤ ((acc + 1) * 10) * 10 ^ r.length := Nat.mul_le_mul_right _ (by omega)
      rw [Nat.mul_assoc, Nat.mul_comm 10] at h2
      omega
    · cases h
theorem digit_val {x : UInt8} {d : Nat} (h : Lib.digitVal x = some d) : 48 ≤ x.toNat ∧ x.toNat ≤ 57 ∧ d = x.toNat - 48 := by
  unfold Lib.digitVal at h
  split at h
  · rename_i hx
    injection h with h
    exact ⟨hx.1, hx.2, h.symm⟩
  · cases h
theorem digit_none {x : UInt8} (h : Lib.digitVal x = none) : ¬ (48 ≤ x.toNat ∧ x.toNat ≤ 57) := by
  unfold Lib.digitVal at h
  split at h
  · cases h
  · assumption
theorem give_big {D : Blocks} {w : World} {p n : Nat} {neg : Bool} {v x0 x1 : Value} (hv : Wds D w v (wordsOf n)) (hD : ¬ D p) (c0 : w.cell? ⟨p, 0, none⟩ = some x0) (c1 : w.cell? ⟨p, 1, none⟩ = some x1) :
    BigAt ((w.setCell ⟨p, 1, none⟩ v).setCell ⟨p, 0, none⟩ (.bool (neg && decide (0 < (wordsOf n).length)))) p (if neg = true then -(n : Int) else (n : Int)) := by
  have e : (if neg = true then -(n : Int) else (n : Int)).natAbs = n := by cases neg <;> simp
  have hs : Same D w ((w.setCell ⟨p, 1, none⟩ v).setCell ⟨p, 0, none⟩ (.bool (neg && decide (0 < (wordsOf n).length)))) := (Same.set hD).trans (by rw [World.size_setCell]; exact Nat.le_refl _) (Same.set hD)
  refine ⟨?_, v, ?_, ?_⟩
  · rw [cell_eq (x := x0) (by rw [cell_ne (by decide)]; exact c0)]
    congr 2
    have h0 : (wordsOf n).length = 0 ↔ n = 0 := by rw [List.length_eq_zero_iff, wordsOf_nil]
    rw [Bool.eq_iff_iff]
    cases neg <;> simp <;> omega
  · rw [cell_ne (by decide), cell_eq c1]
  · rw [e]
    exact hv.keep hs fun _ _ _ => trivial
theorem grown_give {w wr : World} {p : Nat} (hb : Below w.heap.size w wr) (u v : Value) : w.grownBy ((wr.setCell ⟨p, 1, none⟩ u).setCell ⟨p, 0, none⟩ v) (some p) := grown_in2 (grown_below hb _) u v
/-- How SetString ends. -/
def SetEnd (w : World) (p : Nat) (neg : Bool) (o : Option Nat) (e : Ending) (w' : World) : Prop := match o with
  | some n => e = .returned (.tuple #[.pointer (some ⟨p, 0, none⟩), .bool true]) ∧ BigAt w' p (if neg = true then -(n : Int) else (n : Int)) ∧ w.grownBy w' (some p)
  | none => e = .returned (.tuple #[.pointer none, .bool false]) ∧ w.grownBy w' (some p)

set_option maxHeartbeats 4000000 in
/-- SetString, behind a minus. -/
theorem setString_minus (p : Nat) (x0 x1 : Value) (r : Str) (w : World) (c0 : w.cell? ⟨p, 0, none⟩ = some x0) (c1 : w.cell? ⟨p, 1, none⟩ = some x1) (hf : ∀ j, w.frozen? ⟨p, j, none⟩ = false) (hl : r.length ≤ 20) (h0 : 1 ≤ r.length) :
    Calls Tryd.prog 58 #[.pointer (some ⟨p, 0, none⟩), .string ⟨(45 :: r).toArray⟩, .int .i64 10] w fun e w' => SetEnd w p true (Lib.decFrom 0 r) e w' := by
  obtain ⟨L, hL⟩ : ∃ L, r.length = L := ⟨_, rfl⟩
  have HL := Lib.hid hL
  rw [hL] at hl h0
  have hrne : ¬ r = [] := fun e => by rw [e] at hL; simp at hL; omega
  clear hL
  obtain ⟨DN, hDN⟩ : ∃ DN, Lib.decFrom 0 r = DN := ⟨_, rfl⟩
  have HDN := Lib.hid hDN
  rw [hDN]
  clear hDN
  have hplt := cell_lt c0
  have hrz : ((r.length : Int) == 0) = false := by rw [beq_eq_false_iff_ne]; have := HL.out; omega
  have E : ((⟨(45 :: r).toArray⟩ : ByteArray)[0]'(by simp [ByteArray.size])).toNat = 45 := rfl
  have hext : (⟨(45 :: r).toArray⟩ : ByteArray).extract 1 (r.length + 1) = ⟨r.toArray⟩ := by rw [ext_mid]; simp
  go_enter Tryd.func58, Tryd.ntmps58
  go_wp2_with fail
  trace_state
  go_loopw [9, 10] (fun rv iv wr => ∃ j n : Nat, j ≤ L ∧ iv = .int .i64 j ∧ Hid (Lib.decFrom 0 (r.take j) = some n) ∧ n < 100000000000000000000 ∧ Hid (Wds (fun k => w.heap.size ≤ k) wr rv (wordsOf n)) ∧ Below w.heap.size w wr) (fun _ iv _ => L - (intOf iv).toNat)
  case atStart => exact ⟨0, 0, Nat.zero_le _, rfl, rfl, by decide, by show Wds _ _ _ _; rw [wordsOf_nil.2 rfl]; exact Wds.none _ _, Below.refl _ _⟩
  case round =>
    obtain ⟨j, n, hj, rfl, hn, hnl, hv, hb⟩ := hrel
    by_cases hlt : j < L
    · have hltr : j < r.length := by rw [HL.out]; exact hlt
      obtain ⟨x, hx⟩ : ∃ x, r[j]? = some x := ⟨_, List.getElem?_eq_getElem hltr⟩
      have EX : ((⟨r.toArray⟩ : ByteArray)[j]'(by simpa [ByteArray.size] using hltr)).toNat = x.toNat := by rw [byte_at' hx]
      have hm : x.toNat < 256 := x.toNat_lt
      cases hd : Lib.digitVal x with
      | some d =>
        obtain ⟨d1, d2, d3⟩ := digit_val hd
        have hmd : x.toNat = d + 48 := by omega
        have hd9 : d ≤ 9 := by omega
        have hst := decFrom_step hx hn.out hd
        have hlim := decFrom_lt10 _ _ _ hst
        have hn2 : n * 10 + d < 100000000000000000000 := by
          have h1 : (r.take (j + 1)).length ≤ 20 := by rw [List.length_take]; have := HL.out; omega
          have h2 : 10 ^ (r.take (j + 1)).length ≤ 10 ^ 20 := Nat.pow_le_pow_right (by decide) h1
          have e : (10 : Nat) ^ 20 = 100000000000000000000 := by decide
          omega
        rw [hmd] at EX
        have HST := Lib.hid hst
        clear hst hlim hx hd d1 d2 d3 hmd hm hn
        have z1 : (48 : Int) ≤ (d : Int) + 48 := by omega
        have z2 : (d : Int) + 48 ≤ 57 := by omega
        have z3 : ¬ (10 : Int) ≤ (d : Int) := by omega
        go_wp2_with fail
        refine (words_any 10 wr (by decide)).mono ?_
        rintro e w1 ⟨⟨v1, rfl, hv1⟩, hb1⟩
        have hvk := Lib.hid (hv.out.below hb1)
        have hv1k := Lib.hid hv1
        clear hv hv1
        go_wp2_with fail
        refine (bmul_any _ _ _ v1 (wordsOf n) (wordsOf 10) w1 hvk.out hv1k.out (by have := wordsOf_len (n := n) (k := 3) (by omega); omega) (by have := wordsOf_len (n := 10) (k := 1) (by decide); omega) (wordsOf_ws n) (wordsOf_ws 10)).mono ?_
        rintro e w2 ⟨⟨v2, rfl, hv2⟩, hb2⟩
        rw [wordsOf_val, wordsOf_val] at hv2
        have hv2k := Lib.hid hv2
        clear hvk hv1k hv2
        go_wp2_with fail
        refine (words_any d w2 (by omega)).mono ?_
        rintro e w3 ⟨⟨v3, rfl, hv3⟩, hb3⟩
        have hv2j := Lib.hid (hv2k.out.below hb3)
        have hv3k := Lib.hid hv3
        clear hv2k hv3
        go_wp2_with fail
        refine (badd_any _ _ v2 v3 (wordsOf (n * 10)) (wordsOf d) w3 hv2j.out hv3k.out (by have := wordsOf_len (n := n * 10) (k := 3) (by omega); omega) (by have := wordsOf_len (n := d) (k := 1) (by omega); omega) (wordsOf_ws _) (wordsOf_ws d)).mono ?_
        rintro e w4 ⟨⟨v4, rfl, hv4⟩, hb4⟩
        rw [wordsOf_val, wordsOf_val] at hv4
        have hbw := chain (chain (chain (chain hb hb1) hb2) hb3) hb4
        have hs3 : w.heap.size ≤ w3.heap.size := (chain (chain (chain hb hb1) hb2) hb3).size
        have HV4 := Lib.hid (hv4.keep (D' := fun k => w.heap.size ≤ k) (Same.refl _ _) fun k hk _ => Nat.le_trans hs3 hk)
        clear hv2j hv3k hv4 hb hb1 hb2 hb3 hb4 hs3
        go_wp2_with fail
        go_roundw
        case rel => exact ⟨j + 1, n * 10 + d, by omega, by go_num, HST, hn2, HV4, hbw⟩
        case measure => simp [intOf] <;> omega
      | none =>
        have hDN : DN = none := by rw [← HDN.out]; exact decFrom_bad _ _ _ _ hx hd
        have hno := digit_none hd
        have HRES : Hid (∀ w', Below w.heap.size w w' → SetEnd w p true DN (.returned (.tuple #[.pointer none, .bool false])) w') := Lib.hid (fun w' hb' => by rw [hDN]; exact ⟨rfl, grown_below hb' _⟩)
        obtain ⟨m, hm2⟩ : ∃ m, x.toNat = m := ⟨_, rfl⟩
        rw [hm2] at hm hno EX
        clear hx hd hDN hm2 hn hv
        have hcs : (m < 48) ∨ (57 < m ∧ m < 65) ∨ (65 ≤ m ∧ m ≤ 90) ∨ (90 < m ∧ m < 97) ∨ (97 ≤ m ∧ m ≤ 122) ∨ (122 < m) := by omega
        rcases hcs with hq | hq | hq | hq | hq | hq
        · have z0 : ¬ (48 : Int) ≤ (m : Int) := by omega
          have z1 : (m : Int) ≤ 57 := by omega
          have z2 : ¬ (97 : Int) ≤ (m : Int) := by omega
          have z3 : (m : Int) ≤ 122 := by omega
          have z4 : ¬ (65 : Int) ≤ (m : Int) := by omega
          have z5 : (m : Int) ≤ 90 := by omega
          clear hno hq
          go_wp2_with fail
          go_ret2
          exact HRES.out _ hb
        · have z0 : (48 : Int) ≤ (m : Int) := by omega
          have z1 : ¬ (m : Int) ≤ 57 := by omega
          have z2 : ¬ (97 : Int) ≤ (m : Int) := by omega
          have z3 : (m : Int) ≤ 122 := by omega
          have z4 : ¬ (65 : Int) ≤ (m : Int) := by omega
          have z5 : (m : Int) ≤ 90 := by omega
          clear hno hq
          go_wp2_with fail
          go_ret2
          exact HRES.out _ hb
        · have z0 : (48 : Int) ≤ (m : Int) := by omega
          have z1 : ¬ (m : Int) ≤ 57 := by omega
          have z2 : ¬ (97 : Int) ≤ (m : Int) := by omega
          have z3 : (m : Int) ≤ 122 := by omega
          have z4 : (65 : Int) ≤ (m : Int) := by omega
          have z5 : (m : Int) ≤ 90 := by omega
          have zz : (10 : Int) ≤ (m : Int) - 65 + 10 := by omega
          clear hno hq
          go_wp2_with fail
          go_ret2
          exact HRES.out _ hb
        · have z0 : (48 : Int) ≤ (m : Int) := by omega
          have z1 : ¬ (m : Int) ≤ 57 := by omega
          have z2 : ¬ (97 : Int) ≤ (m : Int) := by omega
          have z3 : (m : Int) ≤ 122 := by omega
          have z4 : (65 : Int) ≤ (m : Int) := by omega
          have z5 : ¬ (m : Int) ≤ 90 := by omega
          clear hno hq
          go_wp2_with fail
          go_ret2
          exact HRES.out _ hb
        · have z0 : (48 : Int) ≤ (m : Int) := by omega
          have z1 : ¬ (m : Int) ≤ 57 := by omega
          have z2 : (97 : Int) ≤ (m : Int) := by omega
          have z3 : (m : Int) ≤ 122 := by omega
          have z4 : (65 : Int) ≤ (m : Int) := by omega
          have z5 : ¬ (m : Int) ≤ 90 := by omega
          have zz : (10 : Int) ≤ (m : Int) - 97 + 10 := by omega
          clear hno hq
          go_wp2_with fail
          go_ret2
          exact HRES.out _ hb
        · have z0 : (48 : Int) ≤ (m : Int) := by omega
          have z1 : ¬ (m : Int) ≤ 57 := by omega
          have z2 : (97 : Int) ≤ (m : Int) := by omega
          have z3 : ¬ (m : Int) ≤ 122 := by omega
          have z4 : (65 : Int) ≤ (m : Int) := by omega
          have z5 : ¬ (m : Int) ≤ 90 := by omega
          clear hno hq
          go_wp2_with fail
          go_ret2
          exact HRES.out _ hb
    · obtain rfl : j = L := by omega
      have hDN : DN = some n := by rw [← HDN.out, ← hn.out, List.take_of_length_le (by rw [HL.out]; exact Nat.le_refl _)]
      have HDS := Lib.hid hDN
      have hzl : ¬ (j : Int) < (r.length : Int) := by have := HL.out; omega
      have k0 := cell_keep c0 hb
      have k1 := cell_keep c1 hb
      have kf : ∀ i, wr.frozen? ⟨p, i, none⟩ = false := fun i => (hb.frozen (p := ⟨p, i, none⟩) hplt).trans (hf i)
      have hgv := Lib.hid (give_any p true _ x0 x1 (wordsOf n) wr (hv.out.keep (Same.refl _ _) fun _ _ _ => trivial) k0 k1 kf)
      have hbig := Lib.hid (give_big (neg := true) hv.out (by omega) k0 k1)
      have hbg := hb
      clear hDN hn hv hf kf k0 k1 c0 c1
      go_wp2_with fail
      refine hgv.out.mono ?_
      rintro e w1 ⟨rfl, rfl⟩
      go_wp2_with fail
      go_ret2
      rw [HDS.out]
      exact ⟨rfl, hbig.out, grown_give hbg _ _⟩

set_option maxHeartbeats 4000000 in
/-- SetString, behind a plus. -/
theorem setString_plus (p : Nat) (x0 x1 : Value) (r : Str) (w : World) (c0 : w.cell? ⟨p, 0, none⟩ = some x0) (c1 : w.cell? ⟨p, 1, none⟩ = some x1) (hf : ∀ j, w.frozen? ⟨p, j, none⟩ = false) (hl : r.length ≤ 20) (h0 : 1 ≤ r.length) :
    Calls Tryd.prog 58 #[.pointer (some ⟨p, 0, none⟩), .string ⟨(43 :: r).toArray⟩, .int .i64 10] w fun e w' => SetEnd w p false (Lib.decFrom 0 r) e w' := by
  obtain ⟨L, hL⟩ : ∃ L, r.length = L := ⟨_, rfl⟩
  have HL := Lib.hid hL
  rw [hL] at hl h0
  have hrne : ¬ r = [] := fun e => by rw [e] at hL; simp at hL; omega
  clear hL
  obtain ⟨DN, hDN⟩ : ∃ DN, Lib.decFrom 0 r = DN := ⟨_, rfl⟩
  have HDN := Lib.hid hDN
  rw [hDN]
  clear hDN
  have hplt := cell_lt c0
  have hrz : ((r.length : Int) == 0) = false := by rw [beq_eq_false_iff_ne]; have := HL.out; omega
  have E : ((⟨(43 :: r).toArray⟩ : ByteArray)[0]'(by simp [ByteArray.size])).toNat = 43 := rfl
  have hext : (⟨(43 :: r).toArray⟩ : ByteArray).extract 1 (r.length + 1) = ⟨r.toArray⟩ := by rw [ext_mid]; simp
  go_enter Tryd.func58, Tryd.ntmps58
  go_wp2_with fail
  trace_state
  go_loopw [9, 10] (fun rv iv wr => ∃ j n : Nat, j ≤ L ∧ iv = .int .i64 j ∧ Hid (Lib.decFrom 0 (r.take j) = some n) ∧ n < 100000000000000000000 ∧ Hid (Wds (fun k => w.heap.size ≤ k) wr rv (wordsOf n)) ∧ Below w.heap.size w wr) (fun _ iv _ => L - (intOf iv).toNat)
  case atStart => exact ⟨0, 0, Nat.zero_le _, rfl, rfl, by decide, by show Wds _ _ _ _; rw [wordsOf_nil.2 rfl]; exact Wds.none _ _, Below.refl _ _⟩
  case round =>
    obtain ⟨j, n, hj, rfl, hn, hnl, hv, hb⟩ := hrel
    by_cases hlt : j < L
    · have hltr : j < r.length := by rw [HL.out]; exact hlt
      obtain ⟨x, hx⟩ : ∃ x, r[j]? = some x := ⟨_, List.getElem?_eq_getElem hltr⟩
      have EX : ((⟨r.toArray⟩ : ByteArray)[j]'(by simpa [ByteArray.size] using hltr)).toNat = x.toNat := by rw [byte_at' hx]
      have hm : x.toNat < 256 := x.toNat_lt
      cases hd : Lib.digitVal x with
      | some d =>
        obtain ⟨d1, d2, d3⟩ := digit_val hd
        have hmd : x.toNat = d + 48 := by omega
        have hd9 : d ≤ 9 := by omega
        have hst := decFrom_step hx hn.out hd
        have hlim := decFrom_lt10 _ _ _ hst
        have hn2 : n * 10 + d < 100000000000000000000 := by
          have h1 : (r.take (j + 1)).length ≤ 20 := by rw [List.length_take]; have := HL.out; omega
          have h2 : 10 ^ (r.take (j + 1)).length ≤ 10 ^ 20 := Nat.pow_le_pow_right (by decide) h1
          have e : (10 : Nat) ^ 20 = 100000000000000000000 := by decide
          omega
        rw [hmd] at EX
        have HST := Lib.hid hst
        clear hst hlim hx hd d1 d2 d3 hmd hm hn
        have z1 : (48 : Int) ≤ (d : Int) + 48 := by omega
        have z2 : (d : Int) + 48 ≤ 57 := by omega
        have z3 : ¬ (10 : Int) ≤ (d : Int) := by omega
        go_wp2_with fail
        refine (words_any 10 wr (by decide)).mono ?_
        rintro e w1 ⟨⟨v1, rfl, hv1⟩, hb1⟩
        have hvk := Lib.hid (hv.out.below hb1)
        have hv1k := Lib.hid hv1
        clear hv hv1
        go_wp2_with fail
        refine (bmul_any _ _ _ v1 (wordsOf n) (wordsOf 10) w1 hvk.out hv1k.out (by have := wordsOf_len (n := n) (k := 3) (by omega); omega) (by have := wordsOf_len (n := 10) (k := 1) (by decide); omega) (wordsOf_ws n) (wordsOf_ws 10)).mono ?_
        rintro e w2 ⟨⟨v2, rfl, hv2⟩, hb2⟩
        rw [wordsOf_val, wordsOf_val] at hv2
        have hv2k := Lib.hid hv2
        clear hvk hv1k hv2
        go_wp2_with fail
        refine (words_any d w2 (by omega)).mono ?_
        rintro e w3 ⟨⟨v3, rfl, hv3⟩, hb3⟩
        have hv2j := Lib.hid (hv2k.out.below hb3)
        have hv3k := Lib.hid hv3
        clear hv2k hv3
        go_wp2_with fail
        refine (badd_any _ _ v2 v3 (wordsOf (n * 10)) (wordsOf d) w3 hv2j.out hv3k.out (by have := wordsOf_len (n := n * 10) (k := 3) (by omega); omega) (by have := wordsOf_len (n := d) (k := 1) (by omega); omega) (wordsOf_ws _) (wordsOf_ws d)).mono ?_
        rintro e w4 ⟨⟨v4, rfl, hv4⟩, hb4⟩
        rw [wordsOf_val, wordsOf_val] at hv4
        have hbw := chain (chain (chain (chain hb hb1) hb2) hb3) hb4
        have hs3 : w.heap.size ≤ w3.heap.size := (chain (chain (chain hb hb1) hb2) hb3).size
        have HV4 := Lib.hid (hv4.keep (D' := fun k => w.heap.size ≤ k) (Same.refl _ _) fun k hk _ => Nat.le_trans hs3 hk)
        clear hv2j hv3k hv4 hb hb1 hb2 hb3 hb4 hs3
        go_wp2_with fail
        go_roundw
        case rel => exact ⟨j + 1, n * 10 + d, by omega, by go_num, HST, hn2, HV4, hbw⟩
        case measure => simp [intOf] <;> omega
      | none =>
        have hDN : DN = none := by rw [← HDN.out]; exact decFrom_bad _ _ _ _ hx hd
        have hno := digit_none hd
        have HRES : Hid (∀ w', Below w.heap.size w w' → SetEnd w p false DN (.returned (.tuple #[.pointer none, .bool false])) w') := Lib.hid (fun w' hb' => by rw [hDN]; exact ⟨rfl, grown_below hb' _⟩)
        obtain ⟨m, hm2⟩ : ∃ m, x.toNat = m := ⟨_, rfl⟩
        rw [hm2] at hm hno EX
        clear hx hd hDN hm2 hn hv
        have hcs : (m < 48) ∨ (57 < m ∧ m < 65) ∨ (65 ≤ m ∧ m ≤ 90) ∨ (90 < m ∧ m < 97) ∨ (97 ≤ m ∧ m ≤ 122) ∨ (122 < m) := by omega
        rcases hcs with hq | hq | hq | hq | hq | hq
        · have z0 : ¬ (48 : Int) ≤ (m : Int) := by omega
          have z1 : (m : Int) ≤ 57 := by omega
          have z2 : ¬ (97 : Int) ≤ (m : Int) := by omega
          have z3 : (m : Int) ≤ 122 := by omega
          have z4 : ¬ (65 : Int) ≤ (m : Int) := by omega
          have z5 : (m : Int) ≤ 90 := by omega
          clear hno hq
          go_wp2_with fail
          go_ret2
          exact HRES.out _ hb
        · have z0 : (48 : Int) ≤ (m : Int) := by omega
          have z1 : ¬ (m : Int) ≤ 57 := by omega
          have z2 : ¬ (97 : Int) ≤ (m : Int) := by omega
          have z3 : (m : Int) ≤ 122 := by omega
          have z4 : ¬ (65 : Int) ≤ (m : Int) := by omega
          have z5 : (m : Int) ≤ 90 := by omega
          clear hno hq
          go_wp2_with fail
          go_ret2
          exact HRES.out _ hb
        · have z0 : (48 : Int) ≤ (m : Int) := by omega
          have z1 : ¬ (m : Int) ≤ 57 := by omega
          have z2 : ¬ (97 : Int) ≤ (m : Int) := by omega
          have z3 : (m : Int) ≤ 122 := by omega
          have z4 : (65 : Int) ≤ (m : Int) := by omega
          have z5 : (m : Int) ≤ 90 := by omega
          have zz : (10 : Int) ≤ (m : Int) - 65 + 10 := by omega
          clear hno hq
          go_wp2_with fail
          go_ret2
          exact HRES.out _ hb
        · have z0 : (48 : Int) ≤ (m : Int) := by omega
          have z1 : ¬ (m : Int) ≤ 57 := by omega
          have z2 : ¬ (97 : Int) ≤ (m : Int) := by omega
          have z3 : (m : Int) ≤ 122 := by omega
          have z4 : (65 : Int) ≤ (m : Int) := by omega
          have z5 : ¬ (m : Int) ≤ 90 := by omega
          clear hno hq
          go_wp2_with fail
          go_ret2
          exact HRES.out _ hb
        · have z0 : (48 : Int) ≤ (m : Int) := by omega
          have z1 : ¬ (m : Int) ≤ 57 := by omega
          have z2 : (97 : Int) ≤ (m : Int) := by omega
          have z3 : (m : Int) ≤ 122 := by omega
          have z4 : (65 : Int) ≤ (m : Int) := by omega
          have z5 : ¬ (m : Int) ≤ 90 := by omega
          have zz : (10 : Int) ≤ (m : Int) - 97 + 10 := by omega
          clear hno hq
          go_wp2_with fail
          go_ret2
          exact HRES.out _ hb
        · have z0 : (48 : Int) ≤ (m : Int) := by omega
          have z1 : ¬ (m : Int) ≤ 57 := by omega
          have z2 : (97 : Int) ≤ (m : Int) := by omega
          have z3 : ¬ (m : Int) ≤ 122 := by omega
          have z4 : (65 : Int) ≤ (m : Int) := by omega
          have z5 : ¬ (m : Int) ≤ 90 := by omega
          clear hno hq
          go_wp2_with fail
          go_ret2
          exact HRES.out _ hb
    · obtain rfl : j = L := by omega
      have hDN : DN = some n := by rw [← HDN.out, ← hn.out, List.take_of_length_le (by rw [HL.out]; exact Nat.le_refl _)]
      have HDS := Lib.hid hDN
      have hzl : ¬ (j : Int) < (r.length : Int) := by have := HL.out; omega
      have k0 := cell_keep c0 hb
      have k1 := cell_keep c1 hb
      have kf : ∀ i, wr.frozen? ⟨p, i, none⟩ = false := fun i => (hb.frozen (p := ⟨p, i, none⟩) hplt).trans (hf i)
      have hgv := Lib.hid (give_any p false _ x0 x1 (wordsOf n) wr (hv.out.keep (Same.refl _ _) fun _ _ _ => trivial) k0 k1 kf)
      have hbig := Lib.hid (give_big (neg := false) hv.out (by omega) k0 k1)
      have hbg := hb
      clear hDN hn hv hf kf k0 k1 c0 c1
      go_wp2_with fail
      refine hgv.out.mono ?_
      rintro e w1 ⟨rfl, rfl⟩
      go_wp2_with fail
      go_ret2
      rw [HDS.out]
      exact ⟨rfl, hbig.out, grown_give hbg _ _⟩

set_option maxHeartbeats 4000000 in
/-- SetString, without a sign. -/
theorem setString_plain (p : Nat) (x0 x1 : Value) (r : Str) (w : World) (c0 : w.cell? ⟨p, 0, none⟩ = some x0) (c1 : w.cell? ⟨p, 1, none⟩ = some x1) (hf : ∀ j, w.frozen? ⟨p, j, none⟩ = false) (hl : r.length ≤ 20) (h0 : 1 ≤ r.length) (y : UInt8) (hy : r[0]? = some y) (hy1 : y ≠ 45) (hy2 : y ≠ 43):
    Calls Tryd.prog 58 #[.pointer (some ⟨p, 0, none⟩), .string ⟨(r).toArray⟩, .int .i64 10] w fun e w' => SetEnd w p false (Lib.decFrom 0 r) e w' := by
  obtain ⟨L, hL⟩ : ∃ L, r.length = L := ⟨_, rfl⟩
  have HL := Lib.hid hL
  rw [hL] at hl h0
  have hrne : ¬ r = [] := fun e => by rw [e] at hL; simp at hL; omega
  clear hL
  obtain ⟨DN, hDN⟩ : ∃ DN, Lib.decFrom 0 r = DN := ⟨_, rfl⟩
  have HDN := Lib.hid hDN
  rw [hDN]
  clear hDN
  have hplt := cell_lt c0
  have hrz : ((r.length : Int) == 0) = false := by rw [beq_eq_false_iff_ne]; have := HL.out; omega
  have hlt0 : 0 < r.length := by have := HL.out; omega
  have E : ((⟨r.toArray⟩ : ByteArray)[0]'(by simpa [ByteArray.size] using hlt0)).toNat = y.toNat := by rw [byte_at' hy]
  have y1 : ((y.toNat : Int) == 45) = false := by rw [beq_eq_false_iff_ne]; exact u8z hy1 (by decide)
  have y2 : ((y.toNat : Int) == 43) = false := by rw [beq_eq_false_iff_ne]; exact u8z hy2 (by decide)
  clear hy hy1 hy2
  go_enter Tryd.func58, Tryd.ntmps58
  go_wp2_with fail
  trace_state
  go_loopw [9, 10] (fun rv iv wr => ∃ j n : Nat, j ≤ L ∧ iv = .int .i64 j ∧ Hid (Lib.decFrom 0 (r.take j) = some n) ∧ n < 100000000000000000000 ∧ Hid (Wds (fun k => w.heap.size ≤ k) wr rv (wordsOf n)) ∧ Below w.heap.size w wr) (fun _ iv _ => L - (intOf iv).toNat)
  case atStart => exact ⟨0, 0, Nat.zero_le _, rfl, rfl, by decide, by show Wds _ _ _ _; rw [wordsOf_nil.2 rfl]; exact Wds.none _ _, Below.refl _ _⟩
  case round =>
    obtain ⟨j, n, hj, rfl, hn, hnl, hv, hb⟩ := hrel
    by_cases hlt : j < L
    · have hltr : j < r.length := by rw [HL.out]; exact hlt
      obtain ⟨x, hx⟩ : ∃ x, r[j]? = some x := ⟨_, List.getElem?_eq_getElem hltr⟩
      have EX : ((⟨r.toArray⟩ : ByteArray)[j]'(by simpa [ByteArray.size] using hltr)).toNat = x.toNat := by rw [byte_at' hx]
      have hm : x.toNat < 256 := x.toNat_lt
      cases hd : Lib.digitVal x with
      | some d =>
        obtain ⟨d1, d2, d3⟩ := digit_val hd
        have hmd : x.toNat = d + 48 := by omega
        have hd9 : d ≤ 9 := by omega
        have hst := decFrom_step hx hn.out hd
        have hlim := decFrom_lt10 _ _ _ hst
        have hn2 : n * 10 + d < 100000000000000000000 := by
          have h1 : (r.take (j + 1)).length ≤ 20 := by rw [List.length_take]; have := HL.out; omega
          have h2 : 10 ^ (r.take (j + 1)).length ≤ 10 ^ 20 := Nat.pow_le_pow_right (by decide) h1
          have e : (10 : Nat) ^ 20 = 100000000000000000000 := by decide
          omega
        rw [hmd] at EX
        have HST := Lib.hid hst
        clear hst hlim hx hd d1 d2 d3 hmd hm hn
        have z1 : (48 : Int) ≤ (d : Int) + 48 := by omega
        have z2 : (d : Int) + 48 ≤ 57 := by omega
        have z3 : ¬ (10 : Int) ≤ (d : Int) := by omega
        go_wp2_with fail
        refine (words_any 10 wr (by decide)).mono ?_
        rintro e w1 ⟨⟨v1, rfl, hv1⟩, hb1⟩
        have hvk := Lib.hid (hv.out.below hb1)
        have hv1k := Lib.hid hv1
        clear hv hv1
        go_wp2_with fail
        refine (bmul_any _ _ _ v1 (wordsOf n) (wordsOf 10) w1 hvk.out hv1k.out (by have := wordsOf_len (n := n) (k := 3) (by omega); omega) (by have := wordsOf_len (n := 10) (k := 1) (by decide); omega) (wordsOf_ws n) (wordsOf_ws 10)).mono ?_
        rintro e w2 ⟨⟨v2, rfl, hv2⟩, hb2⟩
        rw [wordsOf_val, wordsOf_val] at hv2
        have hv2k := Lib.hid hv2
        clear hvk hv1k hv2
        go_wp2_with fail
        refine (words_any d w2 (by omega)).mono ?_
        rintro e w3 ⟨⟨v3, rfl, hv3⟩, hb3⟩
        have hv2j := Lib.hid (hv2k.out.below hb3)
        have hv3k := Lib.hid hv3
        clear hv2k hv3
        go_wp2_with fail
        refine (badd_any _ _ v2 v3 (wordsOf (n * 10)) (wordsOf d) w3 hv2j.out hv3k.out (by have := wordsOf_len (n := n * 10) (k := 3) (by omega); omega) (by have := wordsOf_len (n := d) (k := 1) (by omega); omega) (wordsOf_ws _) (wordsOf_ws d)).mono ?_
        rintro e w4 ⟨⟨v4, rfl, hv4⟩, hb4⟩
        rw [wordsOf_val, wordsOf_val] at hv4
        have hbw := chain (chain (chain (chain hb hb1) hb2) hb3) hb4
        have hs3 : w.heap.size ≤ w3.heap.size := (chain (chain (chain hb hb1) hb2) hb3).size
        have HV4 := Lib.hid (hv4.keep (D' := fun k => w.heap.size ≤ k) (Same.refl _ _) fun k hk _ => Nat.le_trans hs3 hk)
        clear hv2j hv3k hv4 hb hb1 hb2 hb3 hb4 hs3
        go_wp2_with fail
        go_roundw
        case rel => exact ⟨j + 1, n * 10 + d, by omega, by go_num, HST, hn2, HV4, hbw⟩
        case measure => simp [intOf] <;> omega
      | none =>
        have hDN : DN = none := by rw [← HDN.out]; exact decFrom_bad _ _ _ _ hx hd
        have hno := digit_none hd
        have HRES : Hid (∀ w', Below w.heap.size w w' → SetEnd w p false DN (.returned (.tuple #[.pointer none, .bool false])) w') := Lib.hid (fun w' hb' => by rw [hDN]; exact ⟨rfl, grown_below hb' _⟩)
        obtain ⟨m, hm2⟩ : ∃ m, x.toNat = m := ⟨_, rfl⟩
        rw [hm2] at hm hno EX
        clear hx hd hDN hm2 hn hv
        have hcs : (m < 48) ∨ (57 < m ∧ m < 65) ∨ (65 ≤ m ∧ m ≤ 90) ∨ (90 < m ∧ m < 97) ∨ (97 ≤ m ∧ m ≤ 122) ∨ (122 < m) := by omega
        rcases hcs with hq | hq | hq | hq | hq | hq
        · have z0 : ¬ (48 : Int) ≤ (m : Int) := by omega
          have z1 : (m : Int) ≤ 57 := by omega
          have z2 : ¬ (97 : Int) ≤ (m : Int) := by omega
          have z3 : (m : Int) ≤ 122 := by omega
          have z4 : ¬ (65 : Int) ≤ (m : Int) := by omega
          have z5 : (m : Int) ≤ 90 := by omega
          clear hno hq
          go_wp2_with fail
          go_ret2
          exact HRES.out _ hb
        · have z0 : (48 : Int) ≤ (m : Int) := by omega
          have z1 : ¬ (m : Int) ≤ 57 := by omega
          have z2 : ¬ (97 : Int) ≤ (m : Int) := by omega
          have z3 : (m : Int) ≤ 122 := by omega
          have z4 : ¬ (65 : Int) ≤ (m : Int) := by omega
          have z5 : (m : Int) ≤ 90 := by omega
          clear hno hq
          go_wp2_with fail
          go_ret2
          exact HRES.out _ hb
        · have z0 : (48 : Int) ≤ (m : Int) := by omega
          have z1 : ¬ (m : Int) ≤ 57 := by omega
          have z2 : ¬ (97 : Int) ≤ (m : Int) := by omega
          have z3 : (m : Int) ≤ 122 := by omega
          have z4 : (65 : Int) ≤ (m : Int) := by omega
          have z5 : (m : Int) ≤ 90 := by omega
          have zz : (10 : Int) ≤ (m : Int) - 65 + 10 := by omega
          clear hno hq
          go_wp2_with fail
          go_ret2
          exact HRES.out _ hb
        · have z0 : (48 : Int) ≤ (m : Int) := by omega
          have z1 : ¬ (m : Int) ≤ 57 := by omega
          have z2 : ¬ (97 : Int) ≤ (m : Int) := by omega
          have z3 : (m : Int) ≤ 122 := by omega
          have z4 : (65 : Int) ≤ (m : Int) := by omega
          have z5 : ¬ (m : Int) ≤ 90 := by omega
          clear hno hq
          go_wp2_with fail
          go_ret2
          exact HRES.out _ hb
        · have z0 : (48 : Int) ≤ (m : Int) := by omega
          have z1 : ¬ (m : Int) ≤ 57 := by omega
          have z2 : (97 : Int) ≤ (m : Int) := by omega
          have z3 : (m : Int) ≤ 122 := by omega
          have z4 : (65 : Int) ≤ (m : Int) := by omega
          have z5 : ¬ (m : Int) ≤ 90 := by omega
          have zz : (10 : Int) ≤ (m : Int) - 97 + 10 := by omega
          clear hno hq
          go_wp2_with fail
          go_ret2
          exact HRES.out _ hb
        · have z0 : (48 : Int) ≤ (m : Int) := by omega
          have z1 : ¬ (m : Int) ≤ 57 := by omega
          have z2 : (97 : Int) ≤ (m : Int) := by omega
          have z3 : ¬ (m : Int) ≤ 122 := by omega
          have z4 : (65 : Int) ≤ (m : Int) := by omega
          have z5 : ¬ (m : Int) ≤ 90 := by omega
          clear hno hq
          go_wp2_with fail
          go_ret2
          exact HRES.out _ hb
    · obtain rfl : j = L := by omega
      have hDN : DN = some n := by rw [← HDN.out, ← hn.out, List.take_of_length_le (by rw [HL.out]; exact Nat.le_refl _)]
      have HDS := Lib.hid hDN
      have hzl : ¬ (j : Int) < (r.length : Int) := by have := HL.out; omega
      have k0 := cell_keep c0 hb
      have k1 := cell_keep c1 hb
      have kf : ∀ i, wr.frozen? ⟨p, i, none⟩ = false := fun i => (hb.frozen (p := ⟨p, i, none⟩) hplt).trans (hf i)
      have hgv := Lib.hid (give_any p false _ x0 x1 (wordsOf n) wr (hv.out.keep (Same.refl _ _) fun _ _ _ => trivial) k0 k1 kf)
      have hbig := Lib.hid (give_big (neg := false) hv.out (by omega) k0 k1)
      have hbg := hb
      clear hDN hn hv hf kf k0 k1 c0 c1
      go_wp2_with fail
      refine hgv.out.mono ?_
      rintro e w1 ⟨rfl, rfl⟩
      go_wp2_with fail
      go_ret2
      rw [HDS.out]
      exact ⟨rfl, hbig.out, grown_give hbg _ _⟩

theorem setString_none (p : Nat) (w : World) :
    Calls Tryd.prog 58 #[.pointer (some ⟨p, 0, none⟩), .string ⟨#[]⟩, .int .i64 10] w fun e w' => e = .returned (.tuple #[.pointer none, .bool false]) ∧ w' = w := by
  go_enter Tryd.func58, Tryd.ntmps58
  go_wp2_with fail
  go_ret2
  exact ⟨rfl, rfl⟩
end Go.Proofs.YtmklodgcbldndaaDoor
namespace Go.Proofs.YtmklodgcbldndaaDoor
open Go.RowKit Go.Proofs

set_option maxRecDepth 100000
set_option maxHeartbeats 1000000 in
theorem setString_sign (p : Nat) (c : UInt8) (w : World) (hc : c = 45 ∨ c = 43) :
    Calls Tryd.prog 58 #[.pointer (some ⟨p, 0, none⟩), .string ⟨[c].toArray⟩, .int .i64 10] w fun e w' => e = .returned (.tuple #[.pointer none, .bool false]) ∧ w' = w := by
  rcases hc with rfl | rfl
  all_goals
    go_enter Tryd.func58, Tryd.ntmps58
    go_wp2_with fail
    go_ret2
    exact ⟨rfl, rfl⟩
/-- How SetString ends, of any text. -/
def SetZ (w : World) (p : Nat) (o : Option Int) (e : Ending) (w' : World) : Prop := match o with
  | some n => e = .returned (.tuple #[.pointer (some ⟨p, 0, none⟩), .bool true]) ∧ BigAt w' p n ∧ w.grownBy w' (some p)
  | none => e = .returned (.tuple #[.pointer none, .bool false]) ∧ w.grownBy w' (some p)
theorem setZ_of {w : World} {p : Nat} {neg : Bool} {o : Option Nat} {e : Ending} {w' : World} (h : SetEnd w p neg o e w') : SetZ w p (o.map fun n : Nat => if neg = true then -(n : Int) else (n : Int)) e w' := by
  cases o <;> exact h
theorem setString_any (p : Nat) (x0 x1 : Value) (s : Str) (w : World) (c0 : w.cell? ⟨p, 0, none⟩ = some x0) (c1 : w.cell? ⟨p, 1, none⟩ = some x1) (hf : ∀ j, w.frozen? ⟨p, j, none⟩ = false) (hl : s.length ≤ 20) :
    Calls Tryd.prog 58 #[.pointer (some ⟨p, 0, none⟩), .string ⟨s.toArray⟩, .int .i64 10] w fun e w' => SetZ w p (Lib.atoi s) e w' := by
  have hgr : w.grownBy w (some p) := grown_below (Below.refl _ _) _
  match s, hl with
  | [], _ => exact (setString_none p w).mono fun e w' ⟨h1, h2⟩ => by subst h2; exact ⟨h1, hgr⟩
  | c :: r, hl =>
    simp only [List.length_cons] at hl
    by_cases h45 : c = 45
    · subst h45
      cases r with
      | nil => exact (setString_sign p 45 w (.inl rfl)).mono fun e w' ⟨h1, h2⟩ => by subst h2; exact ⟨h1, hgr⟩
      | cons b r =>
        have e : Lib.atoi (45 :: b :: r) = (Lib.decFrom 0 (b :: r)).map fun n : Nat => if true = true then -(n : Int) else (n : Int) := by
          rw [Lib.atoi, if_pos (by decide), Lib.decNat]
          rfl
        rw [e]
        exact (setString_minus p x0 x1 (b :: r) w c0 c1 hf (by simp only [List.length_cons] at hl ⊢; omega) (by simp)).mono fun _ _ h => setZ_of h
    · by_cases h43 : c = 43
      · subst h43
        cases r with
        | nil => exact (setString_sign p 43 w (.inr rfl)).mono fun e w' ⟨h1, h2⟩ => by subst h2; exact ⟨h1, hgr⟩
        | cons b r =>
          have e : Lib.atoi (43 :: b :: r) = (Lib.decFrom 0 (b :: r)).map fun n : Nat => if false = true then -(n : Int) else (n : Int) := by
            rw [Lib.atoi, if_neg (by decide), if_pos (by decide), Lib.decNat]
            rfl
          rw [e]
          exact (setString_plus p x0 x1 (b :: r) w c0 c1 hf (by simp only [List.length_cons] at hl ⊢; omega) (by simp)).mono fun _ _ h => setZ_of h
      · have e : Lib.atoi (c :: r) = (Lib.decFrom 0 (c :: r)).map fun n : Nat => if false = true then -(n : Int) else (n : Int) := by
          rw [Lib.atoi, if_neg (by simpa using h45), if_neg (by simpa using h43), Lib.decNat]
          rfl
        rw [e]
        exact (setString_plain p x0 x1 (c :: r) w c0 c1 hf (by simp only [List.length_cons]; omega) (by simp) c rfl h45 h43).mono fun _ _ h => setZ_of h
theorem atoi_lt {s : Str} {n : Int} (hl : s.length ≤ 20) (h : Lib.atoi s = some n) : n.natAbs < 100000000000000000000 := by
  have key : ∀ (r : Str) (m : Nat), r.length ≤ 20 → Lib.decNat r = some m → m < 100000000000000000000 := by
    intro r m hr hm
    unfold Lib.decNat at hm
    split at hm
    · cases hm
    · have h1 := decFrom_lt10 _ _ _ hm
      have h2 : 10 ^ r.length ≤ 10 ^ 20 := Nat.pow_le_pow_right (by decide) hr
      have e : (10 : Nat) ^ 20 = 100000000000000000000 := by decide
      omega
  cases s with
  | nil => simp [Lib.atoi] at h
  | cons c r =>
    simp only [List.length_cons] at hl
    rw [Lib.atoi] at h
    split at h
    · obtain ⟨m, h1, h2⟩ := Option.map_eq_some_iff.1 h
      have := key _ _ (by omega) h1
      omega
    · split at h
      · obtain ⟨m, h1, h2⟩ := Option.map_eq_some_iff.1 h
        have := key _ _ (by omega) h1
        omega
      · obtain ⟨m, h1, h2⟩ := Option.map_eq_some_iff.1 h
        have := key _ _ (by simp only [List.length_cons]; omega) h1
        omega
abbrev numRes (o : Option Int) : Ending := .returned (.tuple #[.int .i64 (o.getD 0), .bool o.isSome])
set_option maxHeartbeats 4000000 in
theorem number_any (s : Str) (w : World) (hs : s.length ≤ 1048576) :
    Calls Tryd.prog 35 #[.string ⟨s.toArray⟩] w fun e w' => e = numRes (numR s) ∧ Below w.heap.size w w' := by
  obtain ⟨RES, hRES⟩ : ∃ R, numR s = R := ⟨_, rfl⟩
  have HRES := Lib.hid hRES
  rw [hRES]
  clear hRES
  by_cases hl : 20 < s.length
  · have hz : (20 : Int) < (s.length : Int) := by omega
    have hr : RES = none := by rw [← HRES.out]; unfold numR; rw [if_pos hl]
    subst hr
    clear HRES hl
    go_enter Tryd.func35, Tryd.ntmps35
    go_wp2_with fail
    go_ret2
    exact ⟨rfl, Below.refl _ _⟩
  · have hz : ¬ (20 : Int) < (s.length : Int) := by omega
    have hlz : s.length ≤ 20 := by omega
    have c0 : (w.alloc (.cells #[.bool false, .slice none 0 0] 84)).cell? ⟨w.heap.size, 0, none⟩ = some (.bool false) := by simp [go_sem]
    have c1 : (w.alloc (.cells #[.bool false, .slice none 0 0] 84)).cell? ⟨w.heap.size, 1, none⟩ = some (.slice none 0 0) := by simp [go_sem]
    have hset := setString_any w.heap.size _ _ s _ c0 c1 (fun j => by simp [go_sem]) hlz
    have hbg : ∀ w1, (w.alloc (.cells #[.bool false, .slice none 0 0] 84)).grownBy w1 (some w.heap.size) → Below w.heap.size w w1 := fun w1 hg => (Below.refl _ _).alloc (Nat.le_refl _) _ |>.grown hg (Nat.le_trans (Nat.le_succ _) (Nat.le_of_eq (Array.size_push _).symm)) (fun k hk => by injection hk with hk; omega)
    have HSET := Lib.hid hset
    have HBG := Lib.hid hbg
    cases ha : Lib.atoi s with
    | none =>
      have hr : RES = none := by rw [← HRES.out]; unfold numR; rw [if_neg hl, ha]; rfl
      subst hr
      rw [ha] at HSET
      clear HRES hl ha hset hbg c0 c1
      go_enter Tryd.func35, Tryd.ntmps35
      go_wp2_with fail
      refine HSET.out.mono ?_
      rintro e w1 ⟨rfl, hg⟩
      go_wp2_with fail
      go_ret2
      exact ⟨rfl, HBG.out _ hg⟩
    | some n =>
      have hnl := atoi_lt hlz ha
      have hr : RES = if IsNum s n then some n else none := by rw [← HRES.out]; unfold numR; rw [if_neg hl, ha]; rfl
      rw [ha] at HSET
      clear HRES hl ha hset hbg c0 c1
      by_cases hi : Lib.itoa n = s
      · have hib : (Lib.itoa n == s) = true := by rw [beq_iff_eq]; exact hi
        have hib2 : (Lib.itoa n != s) = false := by rw [bne_eq_false_iff_eq]; exact hi
        have HI := Lib.hid hi
        clear hi
        by_cases hb : -9223372036854775808 ≤ n ∧ n ≤ 9223372036854775807
        · have hres : RES = some n := by rw [hr, if_pos ⟨HI.out, hb.1, hb.2⟩]
          subst hres
          have hdb := decide_eq_true hb
          clear hr
          go_enter Tryd.func35, Tryd.ntmps35
          go_wp2_with fail
          refine HSET.out.mono ?_
          rintro e w1 ⟨rfl, hbig, hg⟩
          have hb1 := HBG.out _ hg
          clear hg
          go_wp2_with fail
          refine (bigString_any _ n w1 hbig hnl).mono ?_
          rintro e w2 ⟨rfl, hb2⟩
          have hbig2 := hbig.below hb2
          have hb12 := chain hb1 hb2
          have HII := isInt64_any _ n w2 hbig2 hnl
          rw [hdb] at HII
          have HII := Lib.hid HII
          clear hbig hb1 hb2 hdb
          go_wp2_with fail
          refine HII.out.mono ?_
          rintro e w3 ⟨rfl, rfl⟩
          go_wp2_with fail
          refine (int64_any _ n _ hbig2 hb.1 hb.2).mono ?_
          rintro e w4 ⟨rfl, rfl⟩
          go_wp2_with fail
          go_ret2
          exact ⟨rfl, hb12⟩
        · have hres : RES = none := by rw [hr, if_neg (fun e => hb e.2)]
          subst hres
          have hdb := decide_eq_false hb
          clear hr hb
          go_enter Tryd.func35, Tryd.ntmps35
          go_wp2_with fail
          refine HSET.out.mono ?_
          rintro e w1 ⟨rfl, hbig, hg⟩
          have hb1 := HBG.out _ hg
          clear hg
          go_wp2_with fail
          refine (bigString_any _ n w1 hbig hnl).mono ?_
          rintro e w2 ⟨rfl, hb2⟩
          have hbig2 := hbig.below hb2
          have hb12 := chain hb1 hb2
          have HII := isInt64_any _ n w2 hbig2 hnl
          rw [hdb] at HII
          have HII := Lib.hid HII
          clear hbig hb1 hb2 hdb
          go_wp2_with fail
          refine HII.out.mono ?_
          rintro e w3 ⟨rfl, rfl⟩
          go_wp2_with fail
          go_ret2
          exact ⟨rfl, hb12⟩
      · have hib : (Lib.itoa n == s) = false := by rw [beq_eq_false_iff_ne]; exact hi
        have hib2 : (Lib.itoa n != s) = true := by rw [bne_iff_ne]; exact hi
        have hres : RES = none := by rw [hr, if_neg (fun e => hi e.1)]
        subst hres
        clear hr hi
        go_enter Tryd.func35, Tryd.ntmps35
        go_wp2_with fail
        refine HSET.out.mono ?_
        rintro e w1 ⟨rfl, hbig, hg⟩
        have hb1 := HBG.out _ hg
        clear hg
        go_wp2_with fail
        refine (bigString_any _ n w1 hbig hnl).mono ?_
        rintro e w2 ⟨rfl, hb2⟩
        have hb12 := chain hb1 hb2
        clear hbig hb1 hb2
        go_wp2_with fail
        go_ret2
        exact ⟨rfl, hb12⟩
end Go.Proofs.YtmklodgcbldndaaDoor
namespace Go.Proofs.YtmklodgcbldndaaDoor
open Go.RowKit Go.Proofs

set_option maxRecDepth 100000
set_option maxHeartbeats 1000000 in
theorem vtext_int (n : Int) (t : Str) (w : World) (h1 : -9223372036854775808 ≤ n) (h2 : n ≤ 9223372036854775807) :
    Calls Tryd.prog 15 #[.agg #[.int .i64 1, .int .i64 n, .string ⟨t.toArray⟩]] w fun e w' => e = .returned (.string ⟨(vtxt 1 n t).toArray⟩) ∧ Below w.heap.size w w' := by
  obtain ⟨R, hR⟩ : ∃ R, vtxt 1 n t = R := ⟨_, rfl⟩
  have HR : Hid (Lib.itoa n = R) := hR
  rw [hR]
  clear hR
  go_enter Tryd.func15, Tryd.ntmps15
  go_wp2_with fail
  refine (newInt_any n _ h1 h2).mono ?_
  rintro e w1 ⟨⟨p, rfl, hp⟩, hb1⟩
  go_wp2_with fail
  refine (bigString_any p n w1 hp (by omega)).mono ?_
  rintro e w2 ⟨rfl, hb2⟩
  go_wp2_with fail
  go_ret
  exact ⟨by rw [← HR.out]; rfl, chain (chain (by go_grown) hb1) hb2⟩
set_option maxHeartbeats 1000000 in
theorem vtext_bool (n : Int) (t : Str) (w : World) (hn : n = 0 ∨ n = 1) :
    Calls Tryd.prog 15 #[.agg #[.int .i64 2, .int .i64 n, .string ⟨t.toArray⟩]] w fun e w' => e = .returned (.string ⟨(vtxt 2 n t).toArray⟩) ∧ Below w.heap.size w w' := by
  rcases hn with rfl | rfl
  all_goals
    go_enter Tryd.func15, Tryd.ntmps15
    go_wp2_with fail
    go_ret
    exact ⟨rfl, by go_grown⟩
section
variable {P : Program} {ops : Array Oper} {Q : Exit → Act → World → Prop} {o : Oper} {rest : List Oper} {a : Act}
theorem wpList_app2 {T E : TypeId} {bytes : Nat} (R : RowType P T E 1 bytes) (w : World) (u y : Value) (hgd : o.guard = none) (s x : Operand)
    (ho : o.op = .call { callee := .builtin .append, args := #[s, x], argTypes := #[T, T] })
    (base : Nat) (v : Value) (n : Nat) (xs : List Value) (hs : a.eval s = v) (hown : w.ownsRow base E 1 v n xs)
    (hx : a.eval x = .slice (some ⟨w.heap.size, 0, none⟩) 2 2) (h1 : u.oneCell' = true) (h2 : y.oneCell' = true)
    (hbytes : (n + 2) * bytes ≤ 140737488355328) (h63 : n + 2 ≤ 4611686018427387904) (hbase : base ≤ w.heap.size)
    (h : ∀ v' w', w'.ownsRow base E 1 v' (n + 2) (xs ++ [u, y]) → (w.alloc (.cells #[u, y] E)).grownBy w' v.ownBlock → (v'.ownBlock = v.ownBlock ∨ v'.ownBlock = some (w.heap.size + 1)) → Below base w w' → wpList P ops Q rest (a.put o.dst v') w') : wpList P ops Q (o :: rest) a (w.alloc (.cells #[u, y] E)) := by
  refine wpList_app R hgd s x ho base v n xs hs (hown.alloc _) ⟨w.heap.size, 0, none⟩ 2 2 [u, y] hx rfl (fun j z hj => ?_) (by simp [h1, h2]) (by unfold maxLen; omega) hbytes (by simp; omega) ?_
  · match j, hj with
    | 0, hj | 1, hj => simp at hj; subst hj; simp [Addr.add, go_sem]
    | j + 2, hj => simp at hj
  intro v' w' h2 h3 h4 h5
  exact h v' w' h2 h3 (by simpa using h4) (((Below.refl _ _).alloc hbase _).trans h5)
end
theorem bytes_new (w : World) (b : UInt8) : (w.alloc (.cells #[.int .u8 b.toNat] 5)).ownsRow w.heap.size 5 1 (.slice (some ⟨w.heap.size, 0, none⟩) 1 1) 1 (Lib.byteCells [b]) :=
  ⟨rfl, .inr ⟨w.heap.size, 1, #[.int .u8 b.toNat], rfl, Nat.le_refl _, (by show (w.heap.push _)[w.heap.size]? = _; rw [Array.getElem?_push_size]), Nat.le_refl _, by unfold maxLen; omega, rfl, rfl⟩⟩
theorem cells_app (a b : Str) : Lib.byteCells (a ++ b) = Lib.byteCells a ++ Lib.byteCells b := Lib.byteCells_append a b
theorem conv_own {w : World} {base : Nat} {v : Value} {l : Str} {n : Nat} {xs : List Value} (h : w.ownsRow base 5 1 v n xs) (hn : n = l.length) (hx : xs = Lib.byteCells l) (h0 : 1 ≤ l.length) :
    ∃ A cap, v = .slice A n cap ∧ (convert 59 9 v).run Tryd.prog w = .ok (.string ⟨l.toArray⟩) w := by
  subst hn
  subst hx
  obtain ⟨g, cap, rfl, -, -, hc, -⟩ := byte_row h h0
  refine ⟨_, cap, rfl, run_convert_bytes_back (P := Tryd.prog) w 59 9 5 ⟨g, 0, none⟩ cap l Tryd.underlying59 Tryd.underlying5 Tryd.underlying9 (fun j hj => ?_)⟩
  rw [Go.WideShapes.add_plain, Nat.zero_add]
  exact hc j _ (List.getElem?_eq_getElem hj)
set_option maxHeartbeats 2000000 in
theorem vtext_text (t : Str) (w : World) (ht : t.length ≤ 1048576) :
    Calls Tryd.prog 15 #[.agg #[.int .i64 3, .int .i64 0, .string ⟨t.toArray⟩]] w fun e w' => e = .returned (.string ⟨(vtxt 3 0 t).toArray⟩) ∧ Below w.heap.size w w' := by
  obtain ⟨R, hR⟩ : ∃ R, vtxt 3 0 t = R := ⟨_, rfl⟩
  have HR : Hid (34 :: (esc t ++ [34]) = R) := hR
  rw [hR]
  clear hR
  obtain ⟨L, hL⟩ : ∃ L, t.length = L := ⟨_, rfl⟩
  have HL := Lib.hid hL
  rw [hL] at ht
  clear hL
  go_enter Tryd.func15, Tryd.ntmps15
  go_wp2_with fail
  have hB : Below w.heap.size w (w.alloc (.cells #[.int .i64 3, .int .i64 0, .string ⟨t.toArray⟩] 23)) := by go_grown
  have hk : (w.alloc (.cells #[.int .i64 3, .int .i64 0, .string ⟨t.toArray⟩] 23)).cell? ⟨w.heap.size, 2, none⟩ = some (.string ⟨t.toArray⟩) := by simp [go_sem]
  have hsz : w.heap.size + 1 = (w.alloc (.cells #[.int .i64 3, .int .i64 0, .string ⟨t.toArray⟩] 23)).heap.size := by simp
  rw [hsz]
  generalize w.alloc (.cells #[.int .i64 3, .int .i64 0, .string ⟨t.toArray⟩] 23) = W at *
  have hown := bytes_new W 34
  have hbN : Below W.heap.size W (W.alloc (.cells #[.int .u8 (34 : UInt8).toNat] 5)) := by go_grown
  go_loopw [3, 4] (fun bv i wr => ∃ j : Nat, j ≤ L ∧ i = .int .i64 j ∧ wr.ownsRow W.heap.size 5 1 bv (34 :: esc (t.take j)).length (Lib.byteCells (34 :: esc (t.take j))) ∧ Below W.heap.size W wr) (fun _ i _ => L - (intOf i).toNat)
  case atStart => exact ⟨0, Nat.zero_le _, rfl, hown, hbN⟩
  case round =>
    clear hown hbN
    obtain ⟨j, hj, rfl, hown, hb⟩ := hrel
    obtain ⟨A3, c3, rfl⟩ := own_form hown
    have k2 := cell_keep hk hb
    by_cases hlt : j < L
    · have hltZ : (j : Int) < (L : Int) := by omega
      obtain ⟨x, hx⟩ : ∃ x, t[j]? = some x := ⟨_, List.getElem?_eq_getElem (by rw [HL.out]; exact hlt)⟩
      have HX := Lib.hid hx
      have hlt2 : j < t.length := by rw [HL.out]; exact hlt
      have E : ((⟨t.toArray⟩ : ByteArray)[j]'(by simpa [ByteArray.size] using hlt2)).toNat = x.toNat := by rw [byte_at' HX.out]
      have hes := Lib.hid (esc_snoc (t.take j) x)
      have hln : (esc (t.take j)).length ≤ 2 * j := by have := esc_len (t.take j); rw [List.length_take] at this; omega
      have HT := Lib.hid (take_snoc hx)
      have hszw := hb.size
      obtain ⟨D, hD⟩ : ∃ D, 34 :: esc (t.take j) = D := ⟨_, rfl⟩
      have HD := Lib.hid hD
      have hDl : D.length ≤ 2 * j + 1 := by rw [← hD]; simp; omega
      rw [hD] at hown ⊢
      clear hx hln hD
      have fin : Hid (∀ (v3 : Value) (w3 : World), w3.ownsRow W.heap.size 5 1 v3 (D.length + (escB x).length) (Lib.byteCells D ++ Lib.byteCells (escB x)) → w3.ownsRow W.heap.size 5 1 v3 (34 :: esc (t.take (j + 1))).length (Lib.byteCells (34 :: esc (t.take (j + 1))))) := Lib.hid (fun v3 w3 h => by
        have e : 34 :: esc (t.take (j + 1)) = D ++ escB x := by rw [HT.out, hes.out, ← HD.out]; rfl
        rw [e, List.length_append, Lib.byteCells_append]
        exact h)
      by_cases h10 : x = 10
      · subst h10
        go_wp2_with (at_builtin; go_must (refine wpList_app2 rt_u8 wr (.int .u8 92) (.int .u8 110) rfl (.tmp 41) (.tmp 42) rfl W.heap.size (.slice A3 D.length c3) D.length (Lib.byteCells D) rfl hown rfl rfl rfl (by omega) (by omega) hszw ?_; intro v3 w3 o1 o2 o3 o4))
        exact ⟨⟨j + 1, by omega, by go_num, fin.out _ _ o1, hb.trans o4⟩, by simp [intOf] <;> omega⟩
      · have n10 : (x.toNat : Int) ≠ 10 := u8z h10 (by decide)
        by_cases h92 : x = 92 ∨ x = 34
        · have he : escB x = [92, x] := by unfold escB; rw [if_neg h10, if_pos h92]
          rw [he] at fin
          rcases h92 with rfl | rfl
          · clear he n10 h10
            go_wp2_with (at_builtin; go_must (refine wpList_app2 rt_u8 wr (.int .u8 92) (.int .u8 92) rfl (.tmp 47) (.tmp 52) rfl W.heap.size (.slice A3 D.length c3) D.length (Lib.byteCells D) rfl hown rfl rfl rfl (by omega) (by omega) hszw ?_; intro v3 w3 o1 o2 o3 o4))
            exact ⟨⟨j + 1, by omega, by go_num, fin.out _ _ o1, hb.trans o4⟩, by simp [intOf] <;> omega⟩
          · clear he n10 h10
            go_wp2_with (at_builtin; go_must (refine wpList_app2 rt_u8 wr (.int .u8 92) (.int .u8 34) rfl (.tmp 47) (.tmp 52) rfl W.heap.size (.slice A3 D.length c3) D.length (Lib.byteCells D) rfl hown rfl rfl rfl (by omega) (by omega) hszw ?_; intro v3 w3 o1 o2 o3 o4))
            exact ⟨⟨j + 1, by omega, by go_num, fin.out _ _ o1, hb.trans o4⟩, by simp [intOf] <;> omega⟩
        · have hq : x ≠ 92 ∧ x ≠ 34 := ⟨fun e => h92 (.inl e), fun e => h92 (.inr e)⟩
          have n92 : (x.toNat : Int) ≠ 92 := u8z hq.1 (by decide)
          have n34 : (x.toNat : Int) ≠ 34 := u8z hq.2 (by decide)
          have he : escB x = [x] := by unfold escB; rw [if_neg h10, if_neg h92]
          rw [he] at fin
          clear h92 hq h10 he
          go_wp2_with (at_builtin; go_must (refine wpList_app1 rt_u8 wr (.int .u8 x.toNat) rfl (.tmp 32) (.tmp 37) rfl W.heap.size (.slice A3 D.length c3) D.length (Lib.byteCells D) rfl hown rfl rfl (by omega) (by omega) hszw ?_; intro v3 w3 o1 o2 o3 o4))
          exact ⟨⟨j + 1, by omega, by go_num, fin.out _ _ o1, hb.trans o4⟩, by simp [intOf] <;> omega⟩
    · obtain rfl : j = L := by omega
      have e : t.take j = t := List.take_of_length_le (by rw [HL.out]; exact Nat.le_refl _)
      rw [e] at hown ⊢
      have hln := esc_len t
      rw [HL.out] at hln
      obtain ⟨D, hD⟩ : ∃ D, 34 :: esc t = D := ⟨_, rfl⟩
      have HD := Lib.hid hD
      have hDl : D.length ≤ 2 * j + 1 := by rw [← hD]; simp; omega
      have hszw := hb.size
      rw [hD] at hown ⊢
      clear hln hD e
      have hlt3 : ¬ j < t.length := by rw [HL.out]; omega
      go_wp2_with (at_builtin; go_must (refine wpList_app1 rt_u8 wr (.int .u8 34) rfl (.tmp 54) (.tmp 55) rfl W.heap.size (.slice A3 D.length c3) D.length (Lib.byteCells D) rfl hown rfl rfl (by omega) (by omega) hszw ?_; intro v3 w3 o1 o2 o3 o4; obtain ⟨A4, c4, rfl, hconv⟩ := conv_own (l := D ++ [34]) o1 (by simp) (by rw [Lib.byteCells_append]; rfl) (by simp)))
      go_ret
      exact ⟨by rw [← HR.out, ← HD.out]; rfl, hB.trans ((hb.trans o4).mono hB.size)⟩
/-- What ValueText answers of a value that is one. -/
theorem vtextRef_any (s n : Int) (t : Str) (w : World) (hc : vchk s n t = 0) (ht : t.length ≤ 1048576) (h1 : -9223372036854775808 ≤ n) (h2 : n ≤ 9223372036854775807) :
    Calls Tryd.prog 15 #[.agg #[.int .i64 s, .int .i64 n, .string ⟨t.toArray⟩]] w fun e w' => e = .returned (.string ⟨(vtxt s n t).toArray⟩) ∧ Below w.heap.size w w' := by
  have hs : (s = 3 ∧ n = 0) ∨ s = 1 ∨ (s = 2 ∧ (n = 0 ∨ n = 1)) := by
    unfold vchk at hc
    split at hc
    · exact .inl (by assumption)
    · split at hc
      · rename_i h
        exact .inr h.2
      · omega
  rcases hs with ⟨rfl, rfl⟩ | rfl | ⟨rfl, hn⟩
  · exact vtext_text t w ht
  · exact vtext_int n t w h1 h2
  · exact vtext_bool n t w hn
end Go.Proofs.YtmklodgcbldndaaDoor
namespace Go.Proofs.YtmklodgcbldndaaDoor
open Go.RowKit Go.Proofs

/-- A value as the walk has it. -/
abbrev mkV (s n : Int) (t : List UInt8) : Value := .agg #[.int .i64 s, .int .i64 n, .string ⟨t.toArray⟩]

theorem validGo_letters : ∀ (n : Nat) (l : List UInt8), l.length ≤ n → Lib.validGoD n l = (lettersGo n l).isSome := by
  intro n
  induction n with
  | zero => intro l _; rfl
  | succ n ih =>
    intro l h
    unfold Lib.validGoD lettersGo
    by_cases he : l = []
    · simp [he]
    · have hw := Lib.decodeL_width l
      rw [if_neg he, if_neg he]
      by_cases hb : (Lib.decodeL l).1 = 65533 ∧ (Lib.decodeL l).2 = 1
      · rw [if_pos hb, if_pos ⟨hb.1, by omega⟩]; rfl
      · rw [if_neg hb, if_neg (fun h => hb ⟨h.1, by omega⟩), ih _ (by rw [List.length_drop]; omega)]
        simp
theorem valid_letters (l : List UInt8) : Lib.validD l = (letters l).isSome := validGo_letters _ _ (Nat.le_refl _)

set_option maxHeartbeats 400000 in
theorem refValue_any (s n : Int) (w : World) (t : List UInt8) (hs : t.length ≤ 9223372036854775807) (hT : Tabs w) :
    Calls Tryd.prog 13 #[mkV s n t] w fun e w' => e = .returned (.int .i64 (vchk s n t)) ∧ Below w.heap.size w w' := by
  by_cases h3 : s = 3 ∧ n = 0
  · obtain ⟨rfl, rfl⟩ := h3
    by_cases hl : 100 < t.length
    · have hl' : (100 : Int) < (t.length : Int) := by omega
      go_enter Tryd.func13, Tryd.ntmps13
      go_wp2
      go_ret
      exact ⟨by simp [vchk, hl], by go_grown⟩
    · have hl' : ¬ (100 : Int) < (t.length : Int) := by omega
      obtain ⟨o, ho⟩ : ∃ o, letters t = o := ⟨_, rfl⟩
      have hv := valid_letters t
      have hc : vchk 3 0 t = if o.isSome = true then 0 else 1 := by simp [vchk, hl, hv, ho]
      have HC := Lib.hid hc
      have hL := letters_any t (w.alloc (.cells #[.int .i64 3, .int .i64 0, .string ⟨t.toArray⟩] 23)) (by omega) (hT.below (by go_grown))
      rw [ho] at hL
      have HL := Lib.hid hL
      clear hL ho hv hc
      cases o with
      | none =>
        go_enter Tryd.func13, Tryd.ntmps13
        go_wp2_with (go_at_call 25; go_must (refine (HL.out).mono ?_; rintro e w1 ⟨hb, rfl⟩))
        go_ret
        exact ⟨by rw [HC.out]; rfl, step (by go_grown) hb (by simp)⟩
      | some rs =>
        go_enter Tryd.func13, Tryd.ntmps13
        go_wp2_with (go_at_call 25; go_must (refine (HL.out).mono ?_; rintro e w1 ⟨hb, v, rfl, hown⟩))
        go_ret
        exact ⟨by rw [HC.out]; rfl, step (by go_grown) hb (by simp)⟩
  · have hc : ¬ (s = 3 ∧ n = 0) := h3
    go_enter Tryd.func13, Tryd.ntmps13
    go_wp2_with fail
    all_goals (go_ret; refine ⟨?_, by go_grown⟩)
    all_goals (first | (simp [vchk, *]; done) | (simp_all [vchk]; done))

/-- Are two values the same, part by part? -/
def eqV (s n : Int) (t : List UInt8) (s' n' : Int) (t' : List UInt8) : Bool := decide (s = s' ∧ n = n' ∧ t = t')
theorem run_eqV (w : World) (s n : Int) (t : List UInt8) (s' n' : Int) (t' : List UInt8) :
    (binOp .eql 23 (mkV s n t) (mkV s' n' t')).run Tryd.prog w = .ok (.bool (eqV s n t s' n' t')) w := by
  have e : eqV s n t s' n' t' = (s == s' && (n == n' && t == t')) := by
    unfold eqV; rw [Bool.eq_iff_iff]; simp
  rw [e]
  go_simp
  by_cases h1 : s = s' <;> by_cases h2 : n = n' <;> by_cases h3 : t = t' <;> simp [h1, h2, h3]

/-- The order of two numbers, of two texts: -1, 0 or 1. -/
def cmpS (a b : List UInt8) : Int := if Op.bytesLess a b = true then -1 else if a = b then 0 else 1
end Go.Proofs.YtmklodgcbldndaaDoor
