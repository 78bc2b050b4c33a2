/-
  Big numbers out of a text: SetString; the reference's Number.
  The reference's Number.
  The reference's text of a value.
  The reference's Value, Order, Length; values.Order with its comparisons.
  The readers of values: the reference's Quoted and ReadValue.
-/
import Derived.Test.YtpidjanngbaiiaaGreatDoorM6
import Derived.Test.YtpidjanngbaiiaaGreatDoorM4
import Derived.Test.YtpidjanngbaiiaaGreatDoorM3
import Derived.Laws.StructEq
import Derived.Deep.RegionHeld3
import Derived.Deep.DrawnRows
namespace Go.Proofs.YtpidjanngbaiiaaGreatDoor
open Go.RowKit Go.Proofs

set_option maxRecDepth 100000
theorem decFrom_step {l : Str} {j n d : Nat} {x : UInt8} (hx : l[j]? = some x) (hn : Lib.decFrom 0 (l.take j) = some n) (hd : Lib.digitVal x = some d) : Lib.decFrom 0 (l.take (j + 1)) = some (n * 10 + d) := by
 rw [take_snoc hx]
 exact decFrom_snoc _ _ _ _ _ hn hd
theorem decFrom_bad : ∀ (l : Str) (acc : Nat) (j : Nat) (x : UInt8), l[j]? = some x → Lib.digitVal x = none → Lib.decFrom acc l = none := by
 intro l
 induction l with
 | nil => intro acc j x h; simp at h
 | cons b r ih =>
  intro acc j x h hx
  rw [Lib.decFrom]
  cases j with
  | zero =>
   simp at h
   subst h
   rw [hx]
  | succ j =>
   simp at h
   split
   ·exact ih _ j x h hx
   ·rfl
theorem decFrom_lt10 : ∀ (l : Str) (acc n : Nat), Lib.decFrom acc l = some n → n < (acc + 1) * 10 ^ l.length := by
 intro l
 induction l with
 | nil =>
  intro acc n h
  simp [Lib.decFrom] at h
  subst h
  simp
 | cons b r ih =>
  intro acc n h
  rw [Lib.decFrom] at h
  split at h
  ·rename_i d hd
   have := ih _ _ h
   have hd9 : d ≤ 9 := by
    unfold Lib.digitVal at hd
    split at hd
    ·injection hd with hd; omega
    ·cases hd
   rw [List.length_cons, Nat.pow_succ]
   have h2 : (acc * 10 + d + 1) * 10 ^ r.length ≤ ((acc + 1) * 10) * 10 ^ r.length := Nat.mul_le_mul_right _ (by omega)
   rw [Nat.mul_assoc, Nat.mul_comm 10] at h2
   omega
  ·cases h
theorem digit_val {x : UInt8} {d : Nat} (h : Lib.digitVal x = some d) : 48 ≤ x.toNat ∧ x.toNat ≤ 57 ∧ d = x.toNat - 48 := by
 unfold Lib.digitVal at h
 split at h
 ·rename_i hx
  injection h with h
  exact ⟨hx.1, hx.2, h.symm⟩
 ·cases h
theorem digit_none {x : UInt8} (h : Lib.digitVal x = none) : ¬ (48 ≤ x.toNat ∧ x.toNat ≤ 57) := by
 unfold Lib.digitVal at h
 split at h
 ·cases h
 ·assumption
theorem give_big {D : Blocks} {w : World} {p n : Nat} {neg : Bool} {v x0 x1 : Value} (hv : Wds D w v (wordsOf n)) (hD : ¬ D p) (c0 : w.cell? ⟨p, 0, none⟩ = some x0) (c1 : w.cell? ⟨p, 1, none⟩ = some x1) :
  BigAt ((w.setCell ⟨p, 1, none⟩ v).setCell ⟨p, 0, none⟩ (.bool (neg && decide (0 < (wordsOf n).length)))) p (if neg = true then -(n : Int) else (n : Int)) := by
 have e : (if neg = true then -(n : Int) else (n : Int)).natAbs = n := by cases neg <;> simp
 have hs : Same D w ((w.setCell ⟨p, 1, none⟩ v).setCell ⟨p, 0, none⟩ (.bool (neg && decide (0 < (wordsOf n).length)))) := (Same.set hD).trans (by rw [World.size_setCell]; exact Nat.le_refl _) (Same.set hD)
 refine ⟨?_, v, ?_, ?_⟩
 ·rw [cell_eq (x := x0) (by rw [cell_ne (by decide)]; exact c0)]
  congr 2
  have h0 : (wordsOf n).length = 0 ↔ n = 0 := by rw [List.length_eq_zero_iff, wordsOf_nil]
  rw [Bool.eq_iff_iff]
  cases neg <;> simp <;> omega
 ·rw [cell_ne (by decide), cell_eq c1]
 ·rw [e]
  exact hv.keep hs fun _ _ _ => trivial
theorem grown_give {w wr : World} {p : Nat} (hb : Below w.heap.size w wr) (u v : Value) : w.grownBy ((wr.setCell ⟨p, 1, none⟩ u).setCell ⟨p, 0, none⟩ v) (some p) := grown_in2 (grown_below hb _) u v
def SetEnd (w : World) (p : Nat) (neg : Bool) (o : Option Nat) (e : Ending) (w' : World) : Prop := match o with
 | some n => e = .returned (.tuple #[.pointer (some ⟨p, 0, none⟩), .bool true]) ∧ BigAt w' p (if neg = true then -(n : Int) else (n : Int)) ∧ w.grownBy w' (some p)
 | none => e = .returned (.tuple #[.pointer none, .bool false]) ∧ w.grownBy w' (some p)

set_option maxHeartbeats 4000000 in
theorem setString_minus (p : Nat) (x0 x1 : Value) (r : Str) (w : World) (c0 : w.cell? ⟨p, 0, none⟩ = some x0) (c1 : w.cell? ⟨p, 1, none⟩ = some x1) (hf : ∀ j, w.frozen? ⟨p, j, none⟩ = false) (hl : r.length ≤ 20) (h0 : 1 ≤ r.length) :
  Calls Tryz.prog 126 #[.pointer (some ⟨p, 0, none⟩), .string ⟨(45 :: r).toArray⟩, .int .i64 10] w fun e w' => SetEnd w p true (Lib.decFrom 0 r) e w' := by
 obtain ⟨L, hL⟩ : ∃ L, r.length = L := ⟨_, rfl⟩
 have HL := Lib.hid hL
 rw [hL] at hl h0
 have hrne : ¬ r = [] := fun e => by rw [e] at hL; simp at hL; omega
 clear hL
 obtain ⟨DN, hDN⟩ : ∃ DN, Lib.decFrom 0 r = DN := ⟨_, rfl⟩
 have HDN := Lib.hid hDN
 rw [hDN]
 clear hDN
 have hplt := cell_lt c0
 have hrz : ((r.length : Int) == 0) = false := by rw [beq_eq_false_iff_ne]; have := HL.out; omega
 have E : ((⟨(45 :: r).toArray⟩ : ByteArray)[0]'(by simp [ByteArray.size])).toNat = 45 := rfl
 have hext : (⟨(45 :: r).toArray⟩ : ByteArray).extract 1 (r.length + 1) = ⟨r.toArray⟩ := by rw [ext_mid]; simp
 go_enter Tryz.func126, Tryz.ntmps126
 go_wp2_with fail
 trace_state
 go_loopw [9, 10] (fun rv iv wr => ∃ j n : Nat, j ≤ L ∧ iv = .int .i64 j ∧ Hid (Lib.decFrom 0 (r.take j) = some n) ∧ n < 100000000000000000000 ∧ Hid (Wds (fun k => w.heap.size ≤ k) wr rv (wordsOf n)) ∧ Below w.heap.size w wr) (fun _ iv _ => L - (intOf iv).toNat)
 case atStart => exact ⟨0, 0, Nat.zero_le _, rfl, rfl, by decide, by show Wds _ _ _ _; rw [wordsOf_nil.2 rfl]; exact Wds.none _ _, Below.refl _ _⟩
 case round =>
  obtain ⟨j, n, hj, rfl, hn, hnl, hv, hb⟩ := hrel
  by_cases hlt : j < L
  ·have hltr : j < r.length := by rw [HL.out]; exact hlt
   obtain ⟨x, hx⟩ : ∃ x, r[j]? = some x := ⟨_, List.getElem?_eq_getElem hltr⟩
   have EX : ((⟨r.toArray⟩ : ByteArray)[j]'(by simpa [ByteArray.size] using hltr)).toNat = x.toNat := by rw [byte_at' hx]
   have hm : x.toNat < 256 := x.toNat_lt
   cases hd : Lib.digitVal x with
   | some d =>
    obtain ⟨d1, d2, d3⟩ := digit_val hd
    have hmd : x.toNat = d + 48 := by omega
    have hd9 : d ≤ 9 := by omega
    have hst := decFrom_step hx hn.out hd
    have hlim := decFrom_lt10 _ _ _ hst
    have hn2 : n * 10 + d < 100000000000000000000 := by
     have h1 : (r.take (j + 1)).length ≤ 20 := by rw [List.length_take]; have := HL.out; omega
     have h2 : 10 ^ (r.take (j + 1)).length ≤ 10 ^ 20 := Nat.pow_le_pow_right (by decide) h1
     have e : (10 : Nat) ^ 20 = 100000000000000000000 := by decide
     omega
    rw [hmd] at EX
    have HST := Lib.hid hst
    clear hst hlim hx hd d1 d2 d3 hmd hm hn
    have z1 : (48 : Int) ≤ (d : Int) + 48 := by omega
    have z2 : (d : Int) + 48 ≤ 57 := by omega
    have z3 : ¬ (10 : Int) ≤ (d : Int) := by omega
    go_wp2_with fail
    refine (words_any 10 wr (by decide)).mono ?_
    rintro e w1 ⟨⟨v1, rfl, hv1⟩, hb1⟩
    have hvk := Lib.hid (hv.out.below hb1)
    have hv1k := Lib.hid hv1
    clear hv hv1
    go_wp2_with fail
    refine (bmul_any _ _ _ v1 (wordsOf n) (wordsOf 10) w1 hvk.out hv1k.out (by have := wordsOf_len (n := n) (k := 3) (by omega); omega) (by have := wordsOf_len (n := 10) (k := 1) (by decide); omega) (wordsOf_ws n) (wordsOf_ws 10)).mono ?_
    rintro e w2 ⟨⟨v2, rfl, hv2⟩, hb2⟩
    rw [wordsOf_val, wordsOf_val] at hv2
    have hv2k := Lib.hid hv2
    clear hvk hv1k hv2
    go_wp2_with fail
    refine (words_any d w2 (by omega)).mono ?_
    rintro e w3 ⟨⟨v3, rfl, hv3⟩, hb3⟩
    have hv2j := Lib.hid (hv2k.out.below hb3)
    have hv3k := Lib.hid hv3
    clear hv2k hv3
    go_wp2_with fail
    refine (badd_any _ _ v2 v3 (wordsOf (n * 10)) (wordsOf d) w3 hv2j.out hv3k.out (by have := wordsOf_len (n := n * 10) (k := 3) (by omega); omega) (by have := wordsOf_len (n := d) (k := 1) (by omega); omega) (wordsOf_ws _) (wordsOf_ws d)).mono ?_
    rintro e w4 ⟨⟨v4, rfl, hv4⟩, hb4⟩
    rw [wordsOf_val, wordsOf_val] at hv4
    have hbw := chain (chain (chain (chain hb hb1) hb2) hb3) hb4
    have hs3 : w.heap.size ≤ w3.heap.size := (chain (chain (chain hb hb1) hb2) hb3).size
    have HV4 := Lib.hid (hv4.keep (D' := fun k => w.heap.size ≤ k) (Same.refl _ _) fun k hk _ => Nat.le_trans hs3 hk)
    clear hv2j hv3k hv4 hb hb1 hb2 hb3 hb4 hs3
    go_wp2_with fail
    go_roundw
    case rel => exact ⟨j + 1, n * 10 + d, by omega, by go_num, HST, hn2, HV4, hbw⟩
    case measure => simp [intOf] <;> omega
   | none =>
    have hDN : DN = none := by rw [← HDN.out]; exact decFrom_bad _ _ _ _ hx hd
    have hno := digit_none hd
    have HRES : Hid (∀ w', Below w.heap.size w w' → SetEnd w p true DN (.returned (.tuple #[.pointer none, .bool false])) w') := Lib.hid (fun w' hb' => by rw [hDN]; exact ⟨rfl, grown_below hb' _⟩)
    obtain ⟨m, hm2⟩ : ∃ m, x.toNat = m := ⟨_, rfl⟩
    rw [hm2] at hm hno EX
    clear hx hd hDN hm2 hn hv
    have hcs : (m < 48) ∨ (57 < m ∧ m < 65) ∨ (65 ≤ m ∧ m ≤ 90) ∨ (90 < m ∧ m < 97) ∨ (97 ≤ m ∧ m ≤ 122) ∨ (122 < m) := by omega
    rcases hcs with hq | hq | hq | hq | hq | hq
    ·have z0 : ¬ (48 : Int) ≤ (m : Int) := by omega
     have z1 : (m : Int) ≤ 57 := by omega
     have z2 : ¬ (97 : Int) ≤ (m : Int) := by omega
     have z3 : (m : Int) ≤ 122 := by omega
     have z4 : ¬ (65 : Int) ≤ (m : Int) := by omega
     have z5 : (m : Int) ≤ 90 := by omega
     clear hno hq
     go_wp2_with fail
     go_ret2
     exact HRES.out _ hb
    ·have z0 : (48 : Int) ≤ (m : Int) := by omega
     have z1 : ¬ (m : Int) ≤ 57 := by omega
     have z2 : ¬ (97 : Int) ≤ (m : Int) := by omega
     have z3 : (m : Int) ≤ 122 := by omega
     have z4 : ¬ (65 : Int) ≤ (m : Int) := by omega
     have z5 : (m : Int) ≤ 90 := by omega
     clear hno hq
     go_wp2_with fail
     go_ret2
     exact HRES.out _ hb
    ·have z0 : (48 : Int) ≤ (m : Int) := by omega
     have z1 : ¬ (m : Int) ≤ 57 := by omega
     have z2 : ¬ (97 : Int) ≤ (m : Int) := by omega
     have z3 : (m : Int) ≤ 122 := by omega
     have z4 : (65 : Int) ≤ (m : Int) := by omega
     have z5 : (m : Int) ≤ 90 := by omega
     have zz : (10 : Int) ≤ (m : Int) - 65 + 10 := by omega
     clear hno hq
     go_wp2_with fail
     go_ret2
     exact HRES.out _ hb
    ·have z0 : (48 : Int) ≤ (m : Int) := by omega
     have z1 : ¬ (m : Int) ≤ 57 := by omega
     have z2 : ¬ (97 : Int) ≤ (m : Int) := by omega
     have z3 : (m : Int) ≤ 122 := by omega
     have z4 : (65 : Int) ≤ (m : Int) := by omega
     have z5 : ¬ (m : Int) ≤ 90 := by omega
     clear hno hq
     go_wp2_with fail
     go_ret2
     exact HRES.out _ hb
    ·have z0 : (48 : Int) ≤ (m : Int) := by omega
     have z1 : ¬ (m : Int) ≤ 57 := by omega
     have z2 : (97 : Int) ≤ (m : Int) := by omega
     have z3 : (m : Int) ≤ 122 := by omega
     have z4 : (65 : Int) ≤ (m : Int) := by omega
     have z5 : ¬ (m : Int) ≤ 90 := by omega
     have zz : (10 : Int) ≤ (m : Int) - 97 + 10 := by omega
     clear hno hq
     go_wp2_with fail
     go_ret2
     exact HRES.out _ hb
    ·have z0 : (48 : Int) ≤ (m : Int) := by omega
     have z1 : ¬ (m : Int) ≤ 57 := by omega
     have z2 : (97 : Int) ≤ (m : Int) := by omega
     have z3 : ¬ (m : Int) ≤ 122 := by omega
     have z4 : (65 : Int) ≤ (m : Int) := by omega
     have z5 : ¬ (m : Int) ≤ 90 := by omega
     clear hno hq
     go_wp2_with fail
     go_ret2
     exact HRES.out _ hb
  ·obtain rfl : j = L := by omega
   have hDN : DN = some n := by rw [← HDN.out, ← hn.out, List.take_of_length_le (by rw [HL.out]; exact Nat.le_refl _)]
   have HDS := Lib.hid hDN
   have hzl : ¬ (j : Int) < (r.length : Int) := by have := HL.out; omega
   have k0 := cell_keep c0 hb
   have k1 := cell_keep c1 hb
   have kf : ∀ i, wr.frozen? ⟨p, i, none⟩ = false := fun i => (hb.frozen (p := ⟨p, i, none⟩) hplt).trans (hf i)
   have hgv := Lib.hid (give_any p true _ x0 x1 (wordsOf n) wr (hv.out.keep (Same.refl _ _) fun _ _ _ => trivial) k0 k1 kf)
   have hbig := Lib.hid (give_big (neg := true) hv.out (by omega) k0 k1)
   have hbg := hb
   clear hDN hn hv hf kf k0 k1 c0 c1
   go_wp2_with fail
   refine hgv.out.mono ?_
   rintro e w1 ⟨rfl, rfl⟩
   go_wp2_with fail
   go_ret2
   rw [HDS.out]
   exact ⟨rfl, hbig.out, grown_give hbg _ _⟩

set_option maxHeartbeats 4000000 in
theorem setString_plus (p : Nat) (x0 x1 : Value) (r : Str) (w : World) (c0 : w.cell? ⟨p, 0, none⟩ = some x0) (c1 : w.cell? ⟨p, 1, none⟩ = some x1) (hf : ∀ j, w.frozen? ⟨p, j, none⟩ = false) (hl : r.length ≤ 20) (h0 : 1 ≤ r.length) :
  Calls Tryz.prog 126 #[.pointer (some ⟨p, 0, none⟩), .string ⟨(43 :: r).toArray⟩, .int .i64 10] w fun e w' => SetEnd w p false (Lib.decFrom 0 r) e w' := by
 obtain ⟨L, hL⟩ : ∃ L, r.length = L := ⟨_, rfl⟩
 have HL := Lib.hid hL
 rw [hL] at hl h0
 have hrne : ¬ r = [] := fun e => by rw [e] at hL; simp at hL; omega
 clear hL
 obtain ⟨DN, hDN⟩ : ∃ DN, Lib.decFrom 0 r = DN := ⟨_, rfl⟩
 have HDN := Lib.hid hDN
 rw [hDN]
 clear hDN
 have hplt := cell_lt c0
 have hrz : ((r.length : Int) == 0) = false := by rw [beq_eq_false_iff_ne]; have := HL.out; omega
 have E : ((⟨(43 :: r).toArray⟩ : ByteArray)[0]'(by simp [ByteArray.size])).toNat = 43 := rfl
 have hext : (⟨(43 :: r).toArray⟩ : ByteArray).extract 1 (r.length + 1) = ⟨r.toArray⟩ := by rw [ext_mid]; simp
 go_enter Tryz.func126, Tryz.ntmps126
 go_wp2_with fail
 trace_state
 go_loopw [9, 10] (fun rv iv wr => ∃ j n : Nat, j ≤ L ∧ iv = .int .i64 j ∧ Hid (Lib.decFrom 0 (r.take j) = some n) ∧ n < 100000000000000000000 ∧ Hid (Wds (fun k => w.heap.size ≤ k) wr rv (wordsOf n)) ∧ Below w.heap.size w wr) (fun _ iv _ => L - (intOf iv).toNat)
 case atStart => exact ⟨0, 0, Nat.zero_le _, rfl, rfl, by decide, by show Wds _ _ _ _; rw [wordsOf_nil.2 rfl]; exact Wds.none _ _, Below.refl _ _⟩
 case round =>
  obtain ⟨j, n, hj, rfl, hn, hnl, hv, hb⟩ := hrel
  by_cases hlt : j < L
  ·have hltr : j < r.length := by rw [HL.out]; exact hlt
   obtain ⟨x, hx⟩ : ∃ x, r[j]? = some x := ⟨_, List.getElem?_eq_getElem hltr⟩
   have EX : ((⟨r.toArray⟩ : ByteArray)[j]'(by simpa [ByteArray.size] using hltr)).toNat = x.toNat := by rw [byte_at' hx]
   have hm : x.toNat < 256 := x.toNat_lt
   cases hd : Lib.digitVal x with
   | some d =>
    obtain ⟨d1, d2, d3⟩ := digit_val hd
    have hmd : x.toNat = d + 48 := by omega
    have hd9 : d ≤ 9 := by omega
    have hst := decFrom_step hx hn.out hd
    have hlim := decFrom_lt10 _ _ _ hst
    have hn2 : n * 10 + d < 100000000000000000000 := by
     have h1 : (r.take (j + 1)).length ≤ 20 := by rw [List.length_take]; have := HL.out; omega
     have h2 : 10 ^ (r.take (j + 1)).length ≤ 10 ^ 20 := Nat.pow_le_pow_right (by decide) h1
     have e : (10 : Nat) ^ 20 = 100000000000000000000 := by decide
     omega
    rw [hmd] at EX
    have HST := Lib.hid hst
    clear hst hlim hx hd d1 d2 d3 hmd hm hn
    have z1 : (48 : Int) ≤ (d : Int) + 48 := by omega
    have z2 : (d : Int) + 48 ≤ 57 := by omega
    have z3 : ¬ (10 : Int) ≤ (d : Int) := by omega
    go_wp2_with fail
    refine (words_any 10 wr (by decide)).mono ?_
    rintro e w1 ⟨⟨v1, rfl, hv1⟩, hb1⟩
    have hvk := Lib.hid (hv.out.below hb1)
    have hv1k := Lib.hid hv1
    clear hv hv1
    go_wp2_with fail
    refine (bmul_any _ _ _ v1 (wordsOf n) (wordsOf 10) w1 hvk.out hv1k.out (by have := wordsOf_len (n := n) (k := 3) (by omega); omega) (by have := wordsOf_len (n := 10) (k := 1) (by decide); omega) (wordsOf_ws n) (wordsOf_ws 10)).mono ?_
    rintro e w2 ⟨⟨v2, rfl, hv2⟩, hb2⟩
    rw [wordsOf_val, wordsOf_val] at hv2
    have hv2k := Lib.hid hv2
    clear hvk hv1k hv2
    go_wp2_with fail
    refine (words_any d w2 (by omega)).mono ?_
    rintro e w3 ⟨⟨v3, rfl, hv3⟩, hb3⟩
    have hv2j := Lib.hid (hv2k.out.below hb3)
    have hv3k := Lib.hid hv3
    clear hv2k hv3
    go_wp2_with fail
    refine (badd_any _ _ v2 v3 (wordsOf (n * 10)) (wordsOf d) w3 hv2j.out hv3k.out (by have := wordsOf_len (n := n * 10) (k := 3) (by omega); omega) (by have := wordsOf_len (n := d) (k := 1) (by omega); omega) (wordsOf_ws _) (wordsOf_ws d)).mono ?_
    rintro e w4 ⟨⟨v4, rfl, hv4⟩, hb4⟩
    rw [wordsOf_val, wordsOf_val] at hv4
    have hbw := chain (chain (chain (chain hb hb1) hb2) hb3) hb4
    have hs3 : w.heap.size ≤ w3.heap.size := (chain (chain (chain hb hb1) hb2) hb3).size
    have HV4 := Lib.hid (hv4.keep (D' := fun k => w.heap.size ≤ k) (Same.refl _ _) fun k hk _ => Nat.le_trans hs3 hk)
    clear hv2j hv3k hv4 hb hb1 hb2 hb3 hb4 hs3
    go_wp2_with fail
    go_roundw
    case rel => exact ⟨j + 1, n * 10 + d, by omega, by go_num, HST, hn2, HV4, hbw⟩
    case measure => simp [intOf] <;> omega
   | none =>
    have hDN : DN = none := by rw [← HDN.out]; exact decFrom_bad _ _ _ _ hx hd
    have hno := digit_none hd
    have HRES : Hid (∀ w', Below w.heap.size w w' → SetEnd w p false DN (.returned (.tuple #[.pointer none, .bool false])) w') := Lib.hid (fun w' hb' => by rw [hDN]; exact ⟨rfl, grown_below hb' _⟩)
    obtain ⟨m, hm2⟩ : ∃ m, x.toNat = m := ⟨_, rfl⟩
    rw [hm2] at hm hno EX
    clear hx hd hDN hm2 hn hv
    have hcs : (m < 48) ∨ (57 < m ∧ m < 65) ∨ (65 ≤ m ∧ m ≤ 90) ∨ (90 < m ∧ m < 97) ∨ (97 ≤ m ∧ m ≤ 122) ∨ (122 < m) := by omega
    rcases hcs with hq | hq | hq | hq | hq | hq
    ·have z0 : ¬ (48 : Int) ≤ (m : Int) := by omega
     have z1 : (m : Int) ≤ 57 := by omega
     have z2 : ¬ (97 : Int) ≤ (m : Int) := by omega
     have z3 : (m : Int) ≤ 122 := by omega
     have z4 : ¬ (65 : Int) ≤ (m : Int) := by omega
     have z5 : (m : Int) ≤ 90 := by omega
     clear hno hq
     go_wp2_with fail
     go_ret2
     exact HRES.out _ hb
    ·have z0 : (48 : Int) ≤ (m : Int) := by omega
     have z1 : ¬ (m : Int) ≤ 57 := by omega
     have z2 : ¬ (97 : Int) ≤ (m : Int) := by omega
     have z3 : (m : Int) ≤ 122 := by omega
     have z4 : ¬ (65 : Int) ≤ (m : Int) := by omega
     have z5 : (m : Int) ≤ 90 := by omega
     clear hno hq
     go_wp2_with fail
     go_ret2
     exact HRES.out _ hb
    ·have z0 : (48 : Int) ≤ (m : Int) := by omega
     have z1 : ¬ (m : Int) ≤ 57 := by omega
     have z2 : ¬ (97 : Int) ≤ (m : Int) := by omega
     have z3 : (m : Int) ≤ 122 := by omega
     have z4 : (65 : Int) ≤ (m : Int) := by omega
     have z5 : (m : Int) ≤ 90 := by omega
     have zz : (10 : Int) ≤ (m : Int) - 65 + 10 := by omega
     clear hno hq
     go_wp2_with fail
     go_ret2
     exact HRES.out _ hb
    ·have z0 : (48 : Int) ≤ (m : Int) := by omega
     have z1 : ¬ (m : Int) ≤ 57 := by omega
     have z2 : ¬ (97 : Int) ≤ (m : Int) := by omega
     have z3 : (m : Int) ≤ 122 := by omega
     have z4 : (65 : Int) ≤ (m : Int) := by omega
     have z5 : ¬ (m : Int) ≤ 90 := by omega
     clear hno hq
     go_wp2_with fail
     go_ret2
     exact HRES.out _ hb
    ·have z0 : (48 : Int) ≤ (m : Int) := by omega
     have z1 : ¬ (m : Int) ≤ 57 := by omega
     have z2 : (97 : Int) ≤ (m : Int) := by omega
     have z3 : (m : Int) ≤ 122 := by omega
     have z4 : (65 : Int) ≤ (m : Int) := by omega
     have z5 : ¬ (m : Int) ≤ 90 := by omega
     have zz : (10 : Int) ≤ (m : Int) - 97 + 10 := by omega
     clear hno hq
     go_wp2_with fail
     go_ret2
     exact HRES.out _ hb
    ·have z0 : (48 : Int) ≤ (m : Int) := by omega
     have z1 : ¬ (m : Int) ≤ 57 := by omega
     have z2 : (97 : Int) ≤ (m : Int) := by omega
     have z3 : ¬ (m : Int) ≤ 122 := by omega
     have z4 : (65 : Int) ≤ (m : Int) := by omega
     have z5 : ¬ (m : Int) ≤ 90 := by omega
     clear hno hq
     go_wp2_with fail
     go_ret2
     exact HRES.out _ hb
  ·obtain rfl : j = L := by omega
   have hDN : DN = some n := by rw [← HDN.out, ← hn.out, List.take_of_length_le (by rw [HL.out]; exact Nat.le_refl _)]
   have HDS := Lib.hid hDN
   have hzl : ¬ (j : Int) < (r.length : Int) := by have := HL.out; omega
   have k0 := cell_keep c0 hb
   have k1 := cell_keep c1 hb
   have kf : ∀ i, wr.frozen? ⟨p, i, none⟩ = false := fun i => (hb.frozen (p := ⟨p, i, none⟩) hplt).trans (hf i)
   have hgv := Lib.hid (give_any p false _ x0 x1 (wordsOf n) wr (hv.out.keep (Same.refl _ _) fun _ _ _ => trivial) k0 k1 kf)
   have hbig := Lib.hid (give_big (neg := false) hv.out (by omega) k0 k1)
   have hbg := hb
   clear hDN hn hv hf kf k0 k1 c0 c1
   go_wp2_with fail
   refine hgv.out.mono ?_
   rintro e w1 ⟨rfl, rfl⟩
   go_wp2_with fail
   go_ret2
   rw [HDS.out]
   exact ⟨rfl, hbig.out, grown_give hbg _ _⟩

set_option maxHeartbeats 4000000 in
theorem setString_plain (p : Nat) (x0 x1 : Value) (r : Str) (w : World) (c0 : w.cell? ⟨p, 0, none⟩ = some x0) (c1 : w.cell? ⟨p, 1, none⟩ = some x1) (hf : ∀ j, w.frozen? ⟨p, j, none⟩ = false) (hl : r.length ≤ 20) (h0 : 1 ≤ r.length) (y : UInt8) (hy : r[0]? = some y) (hy1 : y ≠ 45) (hy2 : y ≠ 43):
  Calls Tryz.prog 126 #[.pointer (some ⟨p, 0, none⟩), .string ⟨(r).toArray⟩, .int .i64 10] w fun e w' => SetEnd w p false (Lib.decFrom 0 r) e w' := by
 obtain ⟨L, hL⟩ : ∃ L, r.length = L := ⟨_, rfl⟩
 have HL := Lib.hid hL
 rw [hL] at hl h0
 have hrne : ¬ r = [] := fun e => by rw [e] at hL; simp at hL; omega
 clear hL
 obtain ⟨DN, hDN⟩ : ∃ DN, Lib.decFrom 0 r = DN := ⟨_, rfl⟩
 have HDN := Lib.hid hDN
 rw [hDN]
 clear hDN
 have hplt := cell_lt c0
 have hrz : ((r.length : Int) == 0) = false := by rw [beq_eq_false_iff_ne]; have := HL.out; omega
 have hlt0 : 0 < r.length := by have := HL.out; omega
 have E : ((⟨r.toArray⟩ : ByteArray)[0]'(by simpa [ByteArray.size] using hlt0)).toNat = y.toNat := by rw [byte_at' hy]
 have y1 : ((y.toNat : Int) == 45) = false := by rw [beq_eq_false_iff_ne]; exact u8z hy1 (by decide)
 have y2 : ((y.toNat : Int) == 43) = false := by rw [beq_eq_false_iff_ne]; exact u8z hy2 (by decide)
 clear hy hy1 hy2
 go_enter Tryz.func126, Tryz.ntmps126
 go_wp2_with fail
 trace_state
 go_loopw [9, 10] (fun rv iv wr => ∃ j n : Nat, j ≤ L ∧ iv = .int .i64 j ∧ Hid (Lib.decFrom 0 (r.take j) = some n) ∧ n < 100000000000000000000 ∧ Hid (Wds (fun k => w.heap.size ≤ k) wr rv (wordsOf n)) ∧ Below w.heap.size w wr) (fun _ iv _ => L - (intOf iv).toNat)
 case atStart => exact ⟨0, 0, Nat.zero_le _, rfl, rfl, by decide, by show Wds _ _ _ _; rw [wordsOf_nil.2 rfl]; exact Wds.none _ _, Below.refl _ _⟩
 case round =>
  obtain ⟨j, n, hj, rfl, hn, hnl, hv, hb⟩ := hrel
  by_cases hlt : j < L
  ·have hltr : j < r.length := by rw [HL.out]; exact hlt
   obtain ⟨x, hx⟩ : ∃ x, r[j]? = some x := ⟨_, List.getElem?_eq_getElem hltr⟩
   have EX : ((⟨r.toArray⟩ : ByteArray)[j]'(by simpa [ByteArray.size] using hltr)).toNat = x.toNat := by rw [byte_at' hx]
   have hm : x.toNat < 256 := x.toNat_lt
   cases hd : Lib.digitVal x with
   | some d =>
    obtain ⟨d1, d2, d3⟩ := digit_val hd
    have hmd : x.toNat = d + 48 := by omega
    have hd9 : d ≤ 9 := by omega
    have hst := decFrom_step hx hn.out hd
    have hlim := decFrom_lt10 _ _ _ hst
    have hn2 : n * 10 + d < 100000000000000000000 := by
     have h1 : (r.take (j + 1)).length ≤ 20 := by rw [List.length_take]; have := HL.out; omega
     have h2 : 10 ^ (r.take (j + 1)).length ≤ 10 ^ 20 := Nat.pow_le_pow_right (by decide) h1
     have e : (10 : Nat) ^ 20 = 100000000000000000000 := by decide
     omega
    rw [hmd] at EX
    have HST := Lib.hid hst
    clear hst hlim hx hd d1 d2 d3 hmd hm hn
    have z1 : (48 : Int) ≤ (d : Int) + 48 := by omega
    have z2 : (d : Int) + 48 ≤ 57 := by omega
    have z3 : ¬ (10 : Int) ≤ (d : Int) := by omega
    go_wp2_with fail
    refine (words_any 10 wr (by decide)).mono ?_
    rintro e w1 ⟨⟨v1, rfl, hv1⟩, hb1⟩
    have hvk := Lib.hid (hv.out.below hb1)
    have hv1k := Lib.hid hv1
    clear hv hv1
    go_wp2_with fail
    refine (bmul_any _ _ _ v1 (wordsOf n) (wordsOf 10) w1 hvk.out hv1k.out (by have := wordsOf_len (n := n) (k := 3) (by omega); omega) (by have := wordsOf_len (n := 10) (k := 1) (by decide); omega) (wordsOf_ws n) (wordsOf_ws 10)).mono ?_
    rintro e w2 ⟨⟨v2, rfl, hv2⟩, hb2⟩
    rw [wordsOf_val, wordsOf_val] at hv2
    have hv2k := Lib.hid hv2
    clear hvk hv1k hv2
    go_wp2_with fail
    refine (words_any d w2 (by omega)).mono ?_
    rintro e w3 ⟨⟨v3, rfl, hv3⟩, hb3⟩
    have hv2j := Lib.hid (hv2k.out.below hb3)
    have hv3k := Lib.hid hv3
    clear hv2k hv3
    go_wp2_with fail
    refine (badd_any _ _ v2 v3 (wordsOf (n * 10)) (wordsOf d) w3 hv2j.out hv3k.out (by have := wordsOf_len (n := n * 10) (k := 3) (by omega); omega) (by have := wordsOf_len (n := d) (k := 1) (by omega); omega) (wordsOf_ws _) (wordsOf_ws d)).mono ?_
    rintro e w4 ⟨⟨v4, rfl, hv4⟩, hb4⟩
    rw [wordsOf_val, wordsOf_val] at hv4
    have hbw := chain (chain (chain (chain hb hb1) hb2) hb3) hb4
    have hs3 : w.heap.size ≤ w3.heap.size := (chain (chain (chain hb hb1) hb2) hb3).size
    have HV4 := Lib.hid (hv4.keep (D' := fun k => w.heap.size ≤ k) (Same.refl _ _) fun k hk _ => Nat.le_trans hs3 hk)
    clear hv2j hv3k hv4 hb hb1 hb2 hb3 hb4 hs3
    go_wp2_with fail
    go_roundw
    case rel => exact ⟨j + 1, n * 10 + d, by omega, by go_num, HST, hn2, HV4, hbw⟩
    case measure => simp [intOf] <;> omega
   | none =>
    have hDN : DN = none := by rw [← HDN.out]; exact decFrom_bad _ _ _ _ hx hd
    have hno := digit_none hd
    have HRES : Hid (∀ w', Below w.heap.size w w' → SetEnd w p false DN (.returned (.tuple #[.pointer none, .bool false])) w') := Lib.hid (fun w' hb' => by rw [hDN]; exact ⟨rfl, grown_below hb' _⟩)
    obtain ⟨m, hm2⟩ : ∃ m, x.toNat = m := ⟨_, rfl⟩
    rw [hm2] at hm hno EX
    clear hx hd hDN hm2 hn hv
    have hcs : (m < 48) ∨ (57 < m ∧ m < 65) ∨ (65 ≤ m ∧ m ≤ 90) ∨ (90 < m ∧ m < 97) ∨ (97 ≤ m ∧ m ≤ 122) ∨ (122 < m) := by omega
    rcases hcs with hq | hq | hq | hq | hq | hq
    ·have z0 : ¬ (48 : Int) ≤ (m : Int) := by omega
     have z1 : (m : Int) ≤ 57 := by omega
     have z2 : ¬ (97 : Int) ≤ (m : Int) := by omega
     have z3 : (m : Int) ≤ 122 := by omega
     have z4 : ¬ (65 : Int) ≤ (m : Int) := by omega
     have z5 : (m : Int) ≤ 90 := by omega
     clear hno hq
     go_wp2_with fail
     go_ret2
     exact HRES.out _ hb
    ·have z0 : (48 : Int) ≤ (m : Int) := by omega
     have z1 : ¬ (m : Int) ≤ 57 := by omega
     have z2 : ¬ (97 : Int) ≤ (m : Int) := by omega
     have z3 : (m : Int) ≤ 122 := by omega
     have z4 : ¬ (65 : Int) ≤ (m : Int) := by omega
     have z5 : (m : Int) ≤ 90 := by omega
     clear hno hq
     go_wp2_with fail
     go_ret2
     exact HRES.out _ hb
    ·have z0 : (48 : Int) ≤ (m : Int) := by omega
     have z1 : ¬ (m : Int) ≤ 57 := by omega
     have z2 : ¬ (97 : Int) ≤ (m : Int) := by omega
     have z3 : (m : Int) ≤ 122 := by omega
     have z4 : (65 : Int) ≤ (m : Int) := by omega
     have z5 : (m : Int) ≤ 90 := by omega
     have zz : (10 : Int) ≤ (m : Int) - 65 + 10 := by omega
     clear hno hq
     go_wp2_with fail
     go_ret2
     exact HRES.out _ hb
    ·have z0 : (48 : Int) ≤ (m : Int) := by omega
     have z1 : ¬ (m : Int) ≤ 57 := by omega
     have z2 : ¬ (97 : Int) ≤ (m : Int) := by omega
     have z3 : (m : Int) ≤ 122 := by omega
     have z4 : (65 : Int) ≤ (m : Int) := by omega
     have z5 : ¬ (m : Int) ≤ 90 := by omega
     clear hno hq
     go_wp2_with fail
     go_ret2
     exact HRES.out _ hb
    ·have z0 : (48 : Int) ≤ (m : Int) := by omega
     have z1 : ¬ (m : Int) ≤ 57 := by omega
     have z2 : (97 : Int) ≤ (m : Int) := by omega
     have z3 : (m : Int) ≤ 122 := by omega
     have z4 : (65 : Int) ≤ (m : Int) := by omega
     have z5 : ¬ (m : Int) ≤ 90 := by omega
     have zz : (10 : Int) ≤ (m : Int) - 97 + 10 := by omega
     clear hno hq
     go_wp2_with fail
     go_ret2
     exact HRES.out _ hb
    ·have z0 : (48 : Int) ≤ (m : Int) := by omega
     have z1 : ¬ (m : Int) ≤ 57 := by omega
     have z2 : (97 : Int) ≤ (m : Int) := by omega
     have z3 : ¬ (m : Int) ≤ 122 := by omega
     have z4 : (65 : Int) ≤ (m : Int) := by omega
     have z5 : ¬ (m : Int) ≤ 90 := by omega
     clear hno hq
     go_wp2_with fail
     go_ret2
     exact HRES.out _ hb
  ·obtain rfl : j = L := by omega
   have hDN : DN = some n := by rw [← HDN.out, ← hn.out, List.take_of_length_le (by rw [HL.out]; exact Nat.le_refl _)]
   have HDS := Lib.hid hDN
   have hzl : ¬ (j : Int) < (r.length : Int) := by have := HL.out; omega
   have k0 := cell_keep c0 hb
   have k1 := cell_keep c1 hb
   have kf : ∀ i, wr.frozen? ⟨p, i, none⟩ = false := fun i => (hb.frozen (p := ⟨p, i, none⟩) hplt).trans (hf i)
   have hgv := Lib.hid (give_any p false _ x0 x1 (wordsOf n) wr (hv.out.keep (Same.refl _ _) fun _ _ _ => trivial) k0 k1 kf)
   have hbig := Lib.hid (give_big (neg := false) hv.out (by omega) k0 k1)
   have hbg := hb
   clear hDN hn hv hf kf k0 k1 c0 c1
   go_wp2_with fail
   refine hgv.out.mono ?_
   rintro e w1 ⟨rfl, rfl⟩
   go_wp2_with fail
   go_ret2
   rw [HDS.out]
   exact ⟨rfl, hbig.out, grown_give hbg _ _⟩

theorem setString_none (p : Nat) (w : World) :
  Calls Tryz.prog 126 #[.pointer (some ⟨p, 0, none⟩), .string ⟨#[]⟩, .int .i64 10] w fun e w' => e = .returned (.tuple #[.pointer none, .bool false]) ∧ w' = w := by
 go_enter Tryz.func126, Tryz.ntmps126
 go_wp2_with fail
 go_ret2
 exact ⟨rfl, rfl⟩
set_option maxRecDepth 100000
set_option maxHeartbeats 1000000 in
theorem setString_sign (p : Nat) (c : UInt8) (w : World) (hc : c = 45 ∨ c = 43) :
  Calls Tryz.prog 126 #[.pointer (some ⟨p, 0, none⟩), .string ⟨[c].toArray⟩, .int .i64 10] w fun e w' => e = .returned (.tuple #[.pointer none, .bool false]) ∧ w' = w := by
 rcases hc with rfl | rfl
 all_goals
  go_enter Tryz.func126, Tryz.ntmps126
  go_wp2_with fail
  go_ret2
  exact ⟨rfl, rfl⟩
def SetZ (w : World) (p : Nat) (o : Option Int) (e : Ending) (w' : World) : Prop := match o with
 | some n => e = .returned (.tuple #[.pointer (some ⟨p, 0, none⟩), .bool true]) ∧ BigAt w' p n ∧ w.grownBy w' (some p)
 | none => e = .returned (.tuple #[.pointer none, .bool false]) ∧ w.grownBy w' (some p)
theorem setZ_of {w : World} {p : Nat} {neg : Bool} {o : Option Nat} {e : Ending} {w' : World} (h : SetEnd w p neg o e w') : SetZ w p (o.map fun n : Nat => if neg = true then -(n : Int) else (n : Int)) e w' := by
 cases o <;> exact h
theorem setString_any (p : Nat) (x0 x1 : Value) (s : Str) (w : World) (c0 : w.cell? ⟨p, 0, none⟩ = some x0) (c1 : w.cell? ⟨p, 1, none⟩ = some x1) (hf : ∀ j, w.frozen? ⟨p, j, none⟩ = false) (hl : s.length ≤ 20) :
  Calls Tryz.prog 126 #[.pointer (some ⟨p, 0, none⟩), .string ⟨s.toArray⟩, .int .i64 10] w fun e w' => SetZ w p (Lib.atoi s) e w' := by
 have hgr : w.grownBy w (some p) := grown_below (Below.refl _ _) _
 match s, hl with
 | [], _ => exact (setString_none p w).mono fun e w' ⟨h1, h2⟩ => by subst h2; exact ⟨h1, hgr⟩
 | c :: r, hl =>
  simp only [List.length_cons] at hl
  by_cases h45 : c = 45
  ·subst h45
   cases r with
   | nil => exact (setString_sign p 45 w (.inl rfl)).mono fun e w' ⟨h1, h2⟩ => by subst h2; exact ⟨h1, hgr⟩
   | cons b r =>
    have e : Lib.atoi (45 :: b :: r) = (Lib.decFrom 0 (b :: r)).map fun n : Nat => if true = true then -(n : Int) else (n : Int) := by
     rw [Lib.atoi, if_pos (by decide), Lib.decNat]
     rfl
    rw [e]
    exact (setString_minus p x0 x1 (b :: r) w c0 c1 hf (by simp only [List.length_cons] at hl ⊢; omega) (by simp)).mono fun _ _ h => setZ_of h
  ·by_cases h43 : c = 43
   ·subst h43
    cases r with
    | nil => exact (setString_sign p 43 w (.inr rfl)).mono fun e w' ⟨h1, h2⟩ => by subst h2; exact ⟨h1, hgr⟩
    | cons b r =>
     have e : Lib.atoi (43 :: b :: r) = (Lib.decFrom 0 (b :: r)).map fun n : Nat => if false = true then -(n : Int) else (n : Int) := by
      rw [Lib.atoi, if_neg (by decide), if_pos (by decide), Lib.decNat]
      rfl
     rw [e]
     exact (setString_plus p x0 x1 (b :: r) w c0 c1 hf (by simp only [List.length_cons] at hl ⊢; omega) (by simp)).mono fun _ _ h => setZ_of h
   ·have e : Lib.atoi (c :: r) = (Lib.decFrom 0 (c :: r)).map fun n : Nat => if false = true then -(n : Int) else (n : Int) := by
     rw [Lib.atoi, if_neg (by simpa using h45), if_neg (by simpa using h43), Lib.decNat]
     rfl
    rw [e]
    exact (setString_plain p x0 x1 (c :: r) w c0 c1 hf (by simp only [List.length_cons]; omega) (by simp) c rfl h45 h43).mono fun _ _ h => setZ_of h
theorem atoi_lt {s : Str} {n : Int} (hl : s.length ≤ 20) (h : Lib.atoi s = some n) : n.natAbs < 100000000000000000000 := by
 have key : ∀ (r : Str) (m : Nat), r.length ≤ 20 → Lib.decNat r = some m → m < 100000000000000000000 := by
  intro r m hr hm
  unfold Lib.decNat at hm
  split at hm
  ·cases hm
  ·have h1 := decFrom_lt10 _ _ _ hm
   have h2 : 10 ^ r.length ≤ 10 ^ 20 := Nat.pow_le_pow_right (by decide) hr
   have e : (10 : Nat) ^ 20 = 100000000000000000000 := by decide
   omega
 cases s with
 | nil => simp [Lib.atoi] at h
 | cons c r =>
  simp only [List.length_cons] at hl
  rw [Lib.atoi] at h
  split at h
  ·obtain ⟨m, h1, h2⟩ := Option.map_eq_some_iff.1 h
   have := key _ _ (by omega) h1
   omega
  ·split at h
   ·obtain ⟨m, h1, h2⟩ := Option.map_eq_some_iff.1 h
    have := key _ _ (by omega) h1
    omega
   ·obtain ⟨m, h1, h2⟩ := Option.map_eq_some_iff.1 h
    have := key _ _ (by simp only [List.length_cons]; omega) h1
    omega
abbrev numRes (o : Option Int) : Ending := .returned (.tuple #[.int .i64 (o.getD 0), .bool o.isSome])
set_option maxHeartbeats 4000000 in
theorem number_any (s : Str) (w : World) (hs : s.length ≤ 1048576) :
  Calls Tryz.prog 91 #[.string ⟨s.toArray⟩] w fun e w' => e = numRes (numR s) ∧ Below w.heap.size w w' := by
 obtain ⟨RES, hRES⟩ : ∃ R, numR s = R := ⟨_, rfl⟩
 have HRES := Lib.hid hRES
 rw [hRES]
 clear hRES
 by_cases hl : 20 < s.length
 ·have hz : (20 : Int) < (s.length : Int) := by omega
  have hr : RES = none := by rw [← HRES.out]; unfold numR; rw [if_pos hl]
  subst hr
  clear HRES hl
  go_enter Tryz.func91, Tryz.ntmps91
  go_wp2_with fail
  go_ret2
  exact ⟨rfl, Below.refl _ _⟩
 ·have hz : ¬ (20 : Int) < (s.length : Int) := by omega
  have hlz : s.length ≤ 20 := by omega
  have c0 : (w.alloc (.cells #[.bool false, .slice none 0 0] 185)).cell? ⟨w.heap.size, 0, none⟩ = some (.bool false) := by simp [go_sem]
  have c1 : (w.alloc (.cells #[.bool false, .slice none 0 0] 185)).cell? ⟨w.heap.size, 1, none⟩ = some (.slice none 0 0) := by simp [go_sem]
  have hset := setString_any w.heap.size _ _ s _ c0 c1 (fun j => by simp [go_sem]) hlz
  have hbg : ∀ w1, (w.alloc (.cells #[.bool false, .slice none 0 0] 185)).grownBy w1 (some w.heap.size) → Below w.heap.size w w1 := fun w1 hg => (Below.refl _ _).alloc (Nat.le_refl _) _ |>.grown hg (Nat.le_trans (Nat.le_succ _) (Nat.le_of_eq (Array.size_push _).symm)) (fun k hk => by injection hk with hk; omega)
  have HSET := Lib.hid hset
  have HBG := Lib.hid hbg
  cases ha : Lib.atoi s with
  | none =>
   have hr : RES = none := by rw [← HRES.out]; unfold numR; rw [if_neg hl, ha]; rfl
   subst hr
   rw [ha] at HSET
   clear HRES hl ha hset hbg c0 c1
   go_enter Tryz.func91, Tryz.ntmps91
   go_wp2_with fail
   refine HSET.out.mono ?_
   rintro e w1 ⟨rfl, hg⟩
   go_wp2_with fail
   go_ret2
   exact ⟨rfl, HBG.out _ hg⟩
  | some n =>
   have hnl := atoi_lt hlz ha
   have hr : RES = if IsNum s n then some n else none := by rw [← HRES.out]; unfold numR; rw [if_neg hl, ha]; rfl
   rw [ha] at HSET
   clear HRES hl ha hset hbg c0 c1
   by_cases hi : Lib.itoa n = s
   ·have hib : (Lib.itoa n == s) = true := by rw [beq_iff_eq]; exact hi
    have hib2 : (Lib.itoa n != s) = false := by rw [bne_eq_false_iff_eq]; exact hi
    have HI := Lib.hid hi
    clear hi
    by_cases hb : -9223372036854775808 ≤ n ∧ n ≤ 9223372036854775807
    ·have hres : RES = some n := by rw [hr, if_pos ⟨HI.out, hb.1, hb.2⟩]
     subst hres
     have hdb := decide_eq_true hb
     clear hr
     go_enter Tryz.func91, Tryz.ntmps91
     go_wp2_with fail
     refine HSET.out.mono ?_
     rintro e w1 ⟨rfl, hbig, hg⟩
     have hb1 := HBG.out _ hg
     clear hg
     go_wp2_with fail
     refine (bigString_any _ n w1 hbig hnl).mono ?_
     rintro e w2 ⟨rfl, hb2⟩
     have hbig2 := hbig.below hb2
     have hb12 := chain hb1 hb2
     have HII := isInt64_any _ n w2 hbig2 hnl
     rw [hdb] at HII
     have HII := Lib.hid HII
     clear hbig hb1 hb2 hdb
     go_wp2_with fail
     refine HII.out.mono ?_
     rintro e w3 ⟨rfl, rfl⟩
     go_wp2_with fail
     refine (int64_any _ n _ hbig2 hb.1 hb.2).mono ?_
     rintro e w4 ⟨rfl, rfl⟩
     go_wp2_with fail
     go_ret2
     exact ⟨rfl, hb12⟩
    ·have hres : RES = none := by rw [hr, if_neg (fun e => hb e.2)]
     subst hres
     have hdb := decide_eq_false hb
     clear hr hb
     go_enter Tryz.func91, Tryz.ntmps91
     go_wp2_with fail
     refine HSET.out.mono ?_
     rintro e w1 ⟨rfl, hbig, hg⟩
     have hb1 := HBG.out _ hg
     clear hg
     go_wp2_with fail
     refine (bigString_any _ n w1 hbig hnl).mono ?_
     rintro e w2 ⟨rfl, hb2⟩
     have hbig2 := hbig.below hb2
     have hb12 := chain hb1 hb2
     have HII := isInt64_any _ n w2 hbig2 hnl
     rw [hdb] at HII
     have HII := Lib.hid HII
     clear hbig hb1 hb2 hdb
     go_wp2_with fail
     refine HII.out.mono ?_
     rintro e w3 ⟨rfl, rfl⟩
     go_wp2_with fail
     go_ret2
     exact ⟨rfl, hb12⟩
   ·have hib : (Lib.itoa n == s) = false := by rw [beq_eq_false_iff_ne]; exact hi
    have hib2 : (Lib.itoa n != s) = true := by rw [bne_iff_ne]; exact hi
    have hres : RES = none := by rw [hr, if_neg (fun e => hi e.1)]
    subst hres
    clear hr hi
    go_enter Tryz.func91, Tryz.ntmps91
    go_wp2_with fail
    refine HSET.out.mono ?_
    rintro e w1 ⟨rfl, hbig, hg⟩
    have hb1 := HBG.out _ hg
    clear hg
    go_wp2_with fail
    refine (bigString_any _ n w1 hbig hnl).mono ?_
    rintro e w2 ⟨rfl, hb2⟩
    have hb12 := chain hb1 hb2
    clear hbig hb1 hb2
    go_wp2_with fail
    go_ret2
    exact ⟨rfl, hb12⟩
end Go.Proofs.YtpidjanngbaiiaaGreatDoor
namespace Go.Proofs.YtpidjanngbaiiaaGreatDoor
open Go.RowKit Go.Proofs

set_option maxRecDepth 100000
section
variable {P : Program} {ops : Array Oper} {Q : Exit → Act → World → Prop} {o : Oper} {rest : List Oper} {a : Act}
end
end Go.Proofs.YtpidjanngbaiiaaGreatDoor
namespace Go.Proofs.YtpidjanngbaiiaaGreatDoor
open Go.RowKit Go.Proofs

abbrev mkV (s n : Int) (t : List UInt8) : Value := .agg #[.int .i64 s, .int .i64 n, .string ⟨t.toArray⟩]

theorem validGo_letters : ∀ (n : Nat) (l : List UInt8), l.length ≤ n → Lib.validGoD n l = (lettersGo n l).isSome := by
 intro n
 induction n with
 | zero => intro l _; rfl
 | succ n ih =>
  intro l h
  unfold Lib.validGoD lettersGo
  by_cases he : l = []
  ·simp [he]
  ·have hw := Lib.decodeL_width l
   rw [if_neg he, if_neg he]
   by_cases hb : (Lib.decodeL l).1 = 65533 ∧ (Lib.decodeL l).2 = 1
   ·rw [if_pos hb, if_pos ⟨hb.1, by omega⟩]; rfl
   ·rw [if_neg hb, if_neg (fun h => hb ⟨h.1, by omega⟩), ih _ (by rw [List.length_drop]; omega)]
    simp
theorem valid_letters (l : List UInt8) : Lib.validD l = (letters l).isSome := validGo_letters _ _ (Nat.le_refl _)

set_option maxHeartbeats 400000 in
theorem refValue_any (s n : Int) (w : World) (t : List UInt8) (hs : t.length ≤ 9223372036854775807) (hT : Tabs w) :
  Calls Tryz.prog 24 #[mkV s n t] w fun e w' => e = .returned (.int .i64 (vchk s n t)) ∧ Below w.heap.size w w' := by
 by_cases h3 : s = 3 ∧ n = 0
 ·obtain ⟨rfl, rfl⟩ := h3
  by_cases hl : 100 < t.length
  ·have hl' : (100 : Int) < (t.length : Int) := by omega
   go_enter Tryz.func24, Tryz.ntmps24
   go_wp2
   go_ret
   exact ⟨by simp [vchk, hl], by go_grown⟩
  ·have hl' : ¬ (100 : Int) < (t.length : Int) := by omega
   obtain ⟨o, ho⟩ : ∃ o, letters t = o := ⟨_, rfl⟩
   have hv := valid_letters t
   have hc : vchk 3 0 t = if o.isSome = true then 0 else 1 := by simp [vchk, hl, hv, ho]
   have HC := Lib.hid hc
   have hL := letters_any t (w.alloc (.cells #[.int .i64 3, .int .i64 0, .string ⟨t.toArray⟩] 26)) (by omega) (hT.below (by go_grown))
   rw [ho] at hL
   have HL := Lib.hid hL
   clear hL ho hv hc
   cases o with
   | none =>
    go_enter Tryz.func24, Tryz.ntmps24
    go_wp2_with (go_at_call 64; go_must (refine (HL.out).mono ?_; rintro e w1 ⟨hb, rfl⟩))
    go_ret
    exact ⟨by rw [HC.out]; rfl, step (by go_grown) hb (by simp)⟩
   | some rs =>
    go_enter Tryz.func24, Tryz.ntmps24
    go_wp2_with (go_at_call 64; go_must (refine (HL.out).mono ?_; rintro e w1 ⟨hb, v, rfl, hown⟩))
    go_ret
    exact ⟨by rw [HC.out]; rfl, step (by go_grown) hb (by simp)⟩
 ·have hc : ¬ (s = 3 ∧ n = 0) := h3
  go_enter Tryz.func24, Tryz.ntmps24
  go_wp2_with fail
  all_goals (go_ret; refine ⟨?_, by go_grown⟩)
  all_goals (first | (simp [vchk, *]; done) | (simp_all [vchk]; done))

end Go.Proofs.YtpidjanngbaiiaaGreatDoor
namespace Go.Proofs.YtpidjanngbaiiaaGreatDoor
open Go.RowKit Go.Proofs

set_option maxRecDepth 100000
theorem conv_any {w : World} {base : Nat} {v : Value} {l : Str} (h : w.ownsRow base 5 1 v l.length (Lib.byteCells l)) :
  ∀ n, (convert 62 9 v).run Tryz.prog (w.drewN n) = .ok (.string ⟨l.toArray⟩) (w.drewN n) := by
 intro n
 have h' : (w.drewN n).ownsRow base 5 1 v l.length (Lib.byteCells l) := h
 rcases h.2 with ⟨rfl, h0⟩ | ⟨g, cap, cur, rfl, -⟩
 ·have : l = [] := List.eq_nil_of_length_eq_zero h0
  subst this
  rw [run_convert_bytes_string (P := Tryz.prog) (w.drewN n) 62 9 5 none 0 0 Tryz.underlying62 Tryz.underlying5 Tryz.underlying9]
  first | rfl | go_simp
 ·refine run_convert_bytes_back (P := Tryz.prog) (w.drewN n) 62 9 5 ⟨g, 0, none⟩ cap l Tryz.underlying62 Tryz.underlying5 Tryz.underlying9 (fun j hj => ?_)
  exact h'.cells rfl j (.int .u8 ((l[j]).toNat)) (by simp [Lib.byteCells, List.getElem?_eq_getElem hj])
def quRes (o : Option (Nat × Str)) : Ending := match o with
 | some x => .returned (.tuple #[.int .i64 x.1, .string ⟨x.2.toArray⟩])
 | none => .returned (.tuple #[.int .i64 (-1), .string ⟨#[]⟩])
theorem qt_end (f : Nat) (out : Str) : qt f [] out = none := by cases f <;> simp [qt]
section
variable {f : Nat} {r out : Str} {b c : UInt8}
theorem qt_34 (h : Lib.validD out = true) : qt (f + 1) (34 :: r) out = some (1, out) := by rw [qt, if_neg (by simp), if_pos (by rfl), if_pos h]
theorem qt_34n (h : Lib.validD out = false) : qt f (34 :: r) out = none := by
 cases f with
 | zero => rfl
 | succ f => rw [qt, if_neg (by simp), if_pos (by rfl), if_neg (by simp [h])]
theorem qt_10 : qt f (10 :: r) out = none := by
 cases f with
 | zero => rfl
 | succ f => rw [qt, if_neg (by simp), if_neg (by simp), if_pos (by rfl)]
theorem qt_92e : qt f [92] out = none := by
 cases f with
 | zero => rfl
 | succ f => rw [qt, if_neg (by simp), if_neg (by simp), if_neg (by simp), if_pos (by rfl), if_pos (by rfl)]
theorem qt_92n : qt (f + 1) (92 :: 110 :: r) out = (qt f r (out ++ [10])).map fun x => (x.1 + 2, x.2) := by
 rw [qt, if_neg (by simp), if_neg (by simp), if_neg (by simp), if_pos (by rfl), if_neg (by simp), if_pos (by rfl)]
 rfl
theorem qt_92c (h : c = 34 ∨ c = 92) : qt (f + 1) (92 :: c :: r) out = (qt f r (out ++ [c])).map fun x => (x.1 + 2, x.2) := by
 rw [qt, if_neg (by simp), if_neg (by simp), if_neg (by simp), if_pos (by rfl), if_neg (by simp), if_neg (by rcases h with rfl | rfl <;> simp), if_pos (by exact h)]
 rfl
theorem qt_92o (h1 : c ≠ 110) (h2 : c ≠ 34) (h3 : c ≠ 92) : qt f (92 :: c :: r) out = none := by
 cases f with
 | zero => rfl
 | succ f => rw [qt, if_neg (by simp), if_neg (by simp), if_neg (by simp), if_pos (by rfl), if_neg (by simp), if_neg (by simpa using h1), if_neg (by simp [h2, h3])]
theorem qt_o (h1 : b ≠ 34) (h2 : b ≠ 10) (h3 : b ≠ 92) : qt (f + 1) (b :: r) out = (qt f r (out ++ [b])).map fun x => (x.1 + 1, x.2) := by
 rw [qt, if_neg (by simp), if_neg (by simpa using h1), if_neg (by simpa using h2), if_neg (by simpa using h3)]
 rfl
end
theorem map_add {o : Option (Nat × Str)} {a b c : Nat} (h : a + b = c) : (o.map fun x => (x.1 + a, x.2)).map (fun x => (x.1 + b, x.2)) = o.map fun x => (x.1 + c, x.2) := by
 subst h
 rw [Option.map_map]
 congr 1
 funext x
 simp [Nat.add_assoc]
theorem vdrop_at {l : Str} {j : Nat} {b : UInt8} (h : l[j]? = some b) : l.drop j = b :: l.drop (j + 1) := by
 obtain ⟨h1, h2⟩ := List.getElem?_eq_some_iff.1 h
 rw [List.drop_eq_getElem_cons h1, h2]

set_option maxHeartbeats 4000000 in
theorem quotedRef_q (t : Str) (w : World) (ht : t.length ≤ 1048576) (h34 : t[0]? = some 34) (hT : Tabs w) :
  Calls Tryz.prog 90 #[.string ⟨t.toArray⟩] w fun e w' => e = quRes (quotedR t) ∧ Below w.heap.size w w' := by
 obtain ⟨L, hL⟩ : ∃ L, t.length = L := ⟨_, rfl⟩
 have HL := Lib.hid hL
 have hlt0 : 0 < t.length := (List.getElem?_eq_some_iff.1 h34).1
 have hL1 : 1 ≤ L := by omega
 rw [hL] at ht
 obtain ⟨RES, hRES⟩ : ∃ x, quotedR t = x := ⟨_, rfl⟩
 rw [hRES]
 have hq : (qt (L - 1) (t.drop 1) []).map (fun x => (x.1 + 1, x.2)) = RES := by
  rw [← hRES]
  unfold quotedR
  rw [if_pos (by rw [List.head?_eq_getElem?]; exact h34), hL]
 have HQ := Lib.hid hq
 have E0 : ((⟨t.toArray⟩ : ByteArray)[0]'(by simpa [ByteArray.size] using hlt0)).toNat = 34 := by rw [byte_at' h34]; rfl
 have htne : (t == []) = false := by rw [beq_eq_false_iff_ne]; intro e; rw [e] at hlt0; simp at hlt0
 clear hL hq hRES h34
 go_enter Tryz.func90, Tryz.ntmps90
 go_wp2_with fail
 go_loopw [4, 5] (fun ov iv wr => ∃ (j f : Nat) (out : Str), 1 ≤ j ∧ j ≤ L ∧ iv = .int .i64 j ∧ L ≤ f + j ∧ out.length ≤ j ∧ Hid ((qt f (t.drop j) out).map (fun x => (x.1 + j, x.2)) = RES) ∧ wr.ownsRow w.heap.size 5 1 ov out.length (Lib.byteCells out) ∧ Below w.heap.size w wr) (fun _ iv _ => L - (intOf iv).toNat)
 case atStart => exact ⟨1, L - 1, [], Nat.le_refl _, hL1, rfl, by omega, Nat.zero_le _, HQ, World.ownsRow_nil _ _ _ _, Below.refl _ _⟩
 case round =>
  obtain ⟨j, f, out, hj1, hj, rfl, hf, hol, hqt, hown, hb⟩ := hrel
  obtain ⟨A3, c3, rfl⟩ := own_form hown
  have hszw := hb.size
  by_cases hlt : j < L
  ·have hltr : j < t.length := by rw [HL.out]; exact hlt
   obtain ⟨x, hx⟩ : ∃ x, t[j]? = some x := ⟨_, List.getElem?_eq_getElem hltr⟩
   have EX : ((⟨t.toArray⟩ : ByteArray)[j]'(by simpa [ByteArray.size] using hltr)).toNat = x.toNat := by rw [byte_at' hx]
   rw [vdrop_at hx] at hqt
   obtain ⟨f, rfl⟩ : ∃ g, f = g + 1 := ⟨f - 1, by omega⟩
   clear hx
   by_cases h34 : x = 34
   ·subst h34
    have hcv := conv_any hown
    have HCV := hcv 0
    have HCV0 : (convert 62 9 (.slice A3 out.length c3)).run Tryz.prog wr = .ok (.string ⟨out.toArray⟩) wr := HCV
    clear hcv HCV
    cases hv : Lib.validD out with
    | false =>
     have hres : RES = none := by rw [← hqt.out, qt_34n hv]; rfl
     subst hres
     have hlt' : letters out = none := by rw [valid_letters] at hv; cases h : letters out with
      | none => rfl
      | some _ => rw [h] at hv; cases hv
     have HLT := Lib.hid hlt'
     clear hqt HQ hv hlt'
     go_wp2_with fail
     refine (letters_any out wr (by omega) (hT.below hb)).mono ?_
     rintro e w1 ⟨hb1, he⟩
     rw [HLT.out] at he
     obtain rfl := he
     have hb2 := chain hb hb1
     clear HCV0 hown hb hb1
     go_wp2_with fail
     go_ret2
     exact ⟨rfl, hb2⟩
    | true =>
     have hres : RES = some (1 + j, out) := by rw [← hqt.out, qt_34 hv]; rfl
     subst hres
     obtain ⟨rs, hrs⟩ : ∃ rs, letters out = some rs := by rw [valid_letters] at hv; exact Option.isSome_iff_exists.1 hv
     have HLT := Lib.hid hrs
     clear hqt HQ hv hrs
     go_wp2_with fail
     refine (letters_any out wr (by omega) (hT.below hb)).mono ?_
     rintro e w1 ⟨hb1, he⟩
     rw [HLT.out] at he
     obtain ⟨v, rfl, -⟩ := he
     have hb2 := chain hb hb1
     have hown1 := own_keep hown hb1 (Nat.le_refl _)
     have HCV1 := conv_any hown1
     clear HCV0 hown hb hb1
     have z1 : IntKind.i64.wrap ((j : Int) + 1) = (j : Int) + 1 := Go.IntWalk.i64_in _ (by omega)
     go_wp2_with fail
     go_quiet (fail)
     have hb3 := below_drewN hb2 nq
     clear hb2 HCV1 hown1
     generalize w1.drewN nq = w2 at hb3 ⊢
     go_wp2_with fail
     go_ret2
     refine ⟨?_, hb3⟩
     simp only [quRes]
     congr 3
     first | (simp; omega) | rfl
   ·by_cases h10 : x = 10
    ·subst h10
     have hres : RES = none := by rw [← hqt.out, qt_10]; rfl
     subst hres
     clear hqt HQ h34
     go_wp2_with fail
     go_ret2
     exact ⟨rfl, hb⟩
    ·by_cases h92 : x = 92
     ·subst h92
      clear h34 h10
      by_cases hj2 : j + 1 < L
      ·have hltr2 : j + 1 < t.length := by rw [HL.out]; exact hj2
       obtain ⟨c, hc⟩ : ∃ c, t[j + 1]? = some c := ⟨_, List.getElem?_eq_getElem hltr2⟩
       have EC : ((⟨t.toArray⟩ : ByteArray)[j + 1]'(by simpa [ByteArray.size] using hltr2)).toNat = c.toNat := by rw [byte_at' hc]
       rw [vdrop_at hc] at hqt
       have hzl : (j : Int) + 1 < (t.length : Int) := by omega
       clear hc
       by_cases c110 : c = 110
       ·subst c110
        have hnx := hqt.out
        rw [qt_92n, map_add (show 2 + j = j + 2 by omega)] at hnx
        have HNX := Lib.hid hnx
        clear hnx hqt
        go_wp2_with (at_builtin; go_must (refine wpList_app1 rt_u8 wr (.int .u8 10) rfl (.tmp 61) (.tmp 62) rfl w.heap.size (.slice A3 out.length c3) out.length (Lib.byteCells out) rfl hown rfl rfl (by omega) (by omega) hszw ?_; intro v3 w3 o1 o2 o3 o4))
        have hfin : w3.ownsRow w.heap.size 5 1 v3 (out ++ [10]).length (Lib.byteCells (out ++ [10])) := by rw [List.length_append, Lib.byteCells_append]; exact o1
        refine ⟨⟨j + 2, f, out ++ [10], by omega, by omega, by go_num, by omega, by rw [List.length_append, List.length_singleton]; omega, HNX, hfin, hb.trans o4⟩, ?_⟩
        simp [intOf] <;> omega
       ·have c110z : ((c.toNat : Int) == 110) = false := by rw [beq_eq_false_iff_ne]; exact u8z c110 (by decide)
        by_cases c34 : c = 34
        ·subst c34
         have hnx := hqt.out
         rw [qt_92c (.inl rfl), map_add (show 2 + j = j + 2 by omega)] at hnx
         have HNX := Lib.hid hnx
         clear hnx hqt c110
         go_wp2_with (at_builtin; go_must (refine wpList_app1 rt_u8 wr (.int .u8 34) rfl (.tmp 81) (.tmp 85) rfl w.heap.size (.slice A3 out.length c3) out.length (Lib.byteCells out) rfl hown rfl rfl (by omega) (by omega) hszw ?_; intro v3 w3 o1 o2 o3 o4))
         have hfin : w3.ownsRow w.heap.size 5 1 v3 (out ++ [34]).length (Lib.byteCells (out ++ [34])) := by rw [List.length_append, Lib.byteCells_append]; exact o1
         refine ⟨⟨j + 2, f, out ++ [34], by omega, by omega, by go_num, by omega, by rw [List.length_append, List.length_singleton]; omega, HNX, hfin, hb.trans o4⟩, ?_⟩
         simp [intOf] <;> omega
        ·have c34z : ((c.toNat : Int) == 34) = false := by rw [beq_eq_false_iff_ne]; exact u8z c34 (by decide)
         by_cases c92 : c = 92
         ·subst c92
          have hnx := hqt.out
          rw [qt_92c (.inr rfl), map_add (show 2 + j = j + 2 by omega)] at hnx
          have HNX := Lib.hid hnx
          clear hnx hqt c110 c34
          go_wp2_with (at_builtin; go_must (refine wpList_app1 rt_u8 wr (.int .u8 92) rfl (.tmp 81) (.tmp 85) rfl w.heap.size (.slice A3 out.length c3) out.length (Lib.byteCells out) rfl hown rfl rfl (by omega) (by omega) hszw ?_; intro v3 w3 o1 o2 o3 o4))
          have hfin : w3.ownsRow w.heap.size 5 1 v3 (out ++ [92]).length (Lib.byteCells (out ++ [92])) := by rw [List.length_append, Lib.byteCells_append]; exact o1
          refine ⟨⟨j + 2, f, out ++ [92], by omega, by omega, by go_num, by omega, by rw [List.length_append, List.length_singleton]; omega, HNX, hfin, hb.trans o4⟩, ?_⟩
          simp [intOf] <;> omega
         ·have c92z : ((c.toNat : Int) == 92) = false := by rw [beq_eq_false_iff_ne]; exact u8z c92 (by decide)
          have hres : RES = none := by rw [← hqt.out, qt_92o c110 c34 c92]; rfl
          subst hres
          clear hqt HQ c110 c34 c92
          go_wp2_with fail
          go_ret2
          exact ⟨rfl, hb⟩
      ·have hzl : ¬ (j : Int) + 1 < (t.length : Int) := by have := HL.out; omega
       have hres : RES = none := by
        rw [← hqt.out, List.drop_of_length_le (by have := HL.out; omega), qt_92e]; rfl
       subst hres
       clear hqt HQ
       go_wp2_with fail
       go_ret2
       exact ⟨rfl, hb⟩
     ·have hnx := hqt.out
      rw [qt_o h34 h10 h92, map_add (show 1 + j = j + 1 by omega)] at hnx
      have HNX := Lib.hid hnx
      have x34 : ((x.toNat : Int) == 34) = false := by rw [beq_eq_false_iff_ne]; exact u8z h34 (by decide)
      have x10 : ((x.toNat : Int) == 10) = false := by rw [beq_eq_false_iff_ne]; exact u8z h10 (by decide)
      have x92 : ((x.toNat : Int) == 92) = false := by rw [beq_eq_false_iff_ne]; exact u8z h92 (by decide)
      clear hnx hqt h34 h10 h92
      go_wp2_with (at_builtin; go_must (refine wpList_app1 rt_u8 wr (.int .u8 x.toNat) rfl (.tmp 24) (.tmp 28) rfl w.heap.size (.slice A3 out.length c3) out.length (Lib.byteCells out) rfl hown rfl rfl (by omega) (by omega) hszw ?_; intro v3 w3 o1 o2 o3 o4))
      have hfin : w3.ownsRow w.heap.size 5 1 v3 (out ++ [x]).length (Lib.byteCells (out ++ [x])) := by rw [List.length_append, Lib.byteCells_append]; exact o1
      refine ⟨⟨j + 1, f, out ++ [x], by omega, by omega, by go_num, by omega, by rw [List.length_append, List.length_singleton]; omega, HNX, hfin, hb.trans o4⟩, ?_⟩
      simp [intOf] <;> omega
  ·have hres : RES = none := by
    rw [← hqt.out, List.drop_of_length_le (by have := HL.out; omega), qt_end]; rfl
   subst hres
   have hzl : ¬ (j : Int) < (t.length : Int) := by have := HL.out; omega
   clear hqt HQ
   go_wp2_with fail
   go_ret2
   exact ⟨rfl, hb⟩
end Go.Proofs.YtpidjanngbaiiaaGreatDoor
