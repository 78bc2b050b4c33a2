/-
  wires' reader of one event: a value.
  wires' reader of one event: all cases.
-/
import Derived.Test.YtpidjanngbaiiaaGreatDoorM19
namespace Go.Proofs.YtpidjanngbaiiaaGreatDoor
open Go.RowKit Go.Proofs

set_option maxRecDepth 100000
theorem bits_and1 (n : Nat) (hn : n < 18446744073709551616) : bits .and .u64 (n : Int) 1 = ((n % 2 : Nat) : Int) := by
 show IntKind.u64.wrap (((BitVec.ofInt 64 (n : Int)) &&& (BitVec.ofInt 64 1)).toNat : Int) = _
 rw [BitVec.toNat_and, BitVec.ofInt_natCast, BitVec.toNat_ofNat, Nat.mod_eq_of_lt hn, show (BitVec.ofInt 64 1).toNat = 1 by decide, Nat.and_one_is_mod, Go.IntWalk.u64_in _ (by omega)]
theorem zig_back (n : Nat) (hn : n < 18446744073709551616) : bits .xor .i64 (wrap64 ((n : Int) / 2)) (wrap64 (-wrap64 (bits .and .u64 (n : Int) 1))) = unzig n := by
 rw [bits_and1 n hn]
 have hh : wrap64 ((n : Int) / 2) = ((n / 2 : Nat) : Int) := by unfold wrap64; omega
 rw [hh]
 have hm : n / 2 < 9223372036854775808 := by omega
 unfold unzig
 generalize n / 2 = m at hm ⊢
 show IntKind.i64.wrap (((BitVec.ofInt 64 (m : Int)) ^^^ (BitVec.ofInt 64 _)).toNat : Int) = _
 rcases Nat.mod_two_eq_zero_or_one n with h | h
 ·rw [h, if_neg (by decide)]
  rw [show wrap64 (-wrap64 ((0 : Nat) : Int)) = 0 by unfold wrap64; omega, show BitVec.ofInt 64 0 = 0#64 by decide, BitVec.xor_zero, BitVec.ofInt_natCast, BitVec.toNat_ofNat, Nat.mod_eq_of_lt (by omega), Go.IntWalk.i64_in _ (by omega)]
 ·rw [h, if_pos rfl]
  rw [show wrap64 (-wrap64 ((1 : Nat) : Int)) = -1 by unfold wrap64; omega, show BitVec.ofInt 64 (-1) = BitVec.allOnes 64 by decide, BitVec.xor_allOnes, BitVec.ofInt_natCast, BitVec.toNat_not, BitVec.toNat_ofNat, Nat.mod_eq_of_lt (by omega)]
  have e : ((2 ^ 64 - 1 - m : Nat) : Int) = 18446744073709551615 - (m : Int) := by omega
  rw [e]
  have e1 : ∀ x : Int, IntKind.i64.wrap x = if (9223372036854775808 : Int) ≤ x % 18446744073709551616 then x % 18446744073709551616 - 18446744073709551616 else x % 18446744073709551616 := fun x => by
   simp [IntKind.wrap, IntKind.signed, IntKind.bits]
  rw [e1]
  split <;> omega
theorem wn_lt {s : Str} {frm : Nat} : ∀ {f p k n m q : Nat}, wn s frm f p k n = .ok (m, q) → n < 128 ^ k → k ≤ 9 → m < 18446744073709551616 := by
 intro f
 induction f with
 | zero => intro p k n m q h; simp [wn] at h
 | succ f ih =>
  intro p k n m q h hn hk
  cases hc : s[p]? with
  | none => rw [wn_none hc] at h; simp at h
  | some c =>
   by_cases h9 : k = 9 ∧ 1 < c.toNat
   ·rw [wn_nine hc h9] at h; simp at h
   ·by_cases h1 : c.toNat < 128
    ·by_cases h0 : c.toNat = 0 ∧ 0 < k
     ·rw [wn_zero hc h9 h1 h0] at h; simp at h
     ·rw [wn_end hc h9 h1 h0] at h
      injection h with h
      injection h with h2 h3
      subst h2
      by_cases h8 : k = 9
      ·subst h8
       have h1' : c.toNat % 128 ≤ 1 := by omega
       have h2 := Nat.mul_le_mul_right (128 ^ 9) h1'
       have h5 : (128 : Nat) ^ 9 = 9223372036854775808 := by decide
       omega
      ·have h1' := word_lt (c := c.toNat) hn
       have h2 : 128 ^ (k + 1) ≤ 128 ^ 9 := Nat.pow_le_pow_right (by decide) (by omega)
       have h5 : (128 : Nat) ^ 9 = 9223372036854775808 := by decide
       omega
    ·rw [wn_more hc h9 h1] at h
     exact ih h (word_lt hn) (by omega)
theorem wnum_lt {s : Str} {p m q : Nat} (h : wnum s p = .ok (m, q)) : m < 18446744073709551616 := wn_lt h (by decide) (by decide)
theorem unzig_in {n : Nat} (h : n < 18446744073709551616) : -9223372036854775808 ≤ unzig n ∧ unzig n ≤ 9223372036854775807 := by
 unfold unzig
 split <;> omega
set_option maxHeartbeats 4000000 in
theorem wrev_v0 (l : Str) (b p : Nat) (c : UInt8) (w : World) (hl : l.length ≤ 1048576) (hc : l[p]? = some c) (hk : c.toNat = 2 ∨ c.toNat = 3) (hR : RBox w b l p) (S : World → Prop) (hS : Kept b S) (hw0 : S w) (hn : p + 1 = l.length) :
  Calls Tryz.prog 34 #[.pointer (some ⟨b, 0, none⟩)] w fun e w' => EvAns w b l (.error (p + 1)) e w' := by
 have hp1 : p + 1 ≤ l.length := at_lt hc
 have hone := fun (W : World) (hR : RBox W b l p) => wone_ok l b p c W hl hR hc
 have HONE := Lib.hid hone
 obtain ⟨c0, c1, fr, lt⟩ := id hR
 have hc256 : c.toNat < 256 := c.toNat_lt
 have hw : wrap64 (c.toNat : Int) = (c.toNat : Int) := by unfold wrap64; omega
 have HK := Lib.hid hk
 have h23 : ((c.toNat : Int) == 2) = true ∨ (((c.toNat : Int) == 2) = false ∧ ((c.toNat : Int) == 3) = true) := by
  rcases hk with h | h
  ·exact .inl (by rw [beq_iff_eq]; omega)
  ·exact .inr ⟨by rw [beq_eq_false_iff_ne]; omega, by rw [beq_iff_eq]; omega⟩
 clear hone hc hk
 obtain ⟨K, hK⟩ : ∃ K, c.toNat = K := ⟨_, rfl⟩
 rw [hK] at h23 hc256 hw HONE HK 
 try rw [hK]
 clear hK c
 rcases h23 with h2 | ⟨h2, h3⟩
 all_goals (
  go_enter Tryz.func34, Tryz.ntmps34
  go_wp2_with fail
  have B1 : Below w.heap.size w (w.alloc (.cells (evCells ⟨0, 0, 0, [], zeroTy, []⟩ (.slice none 0 0) (.slice none 0 0)) 32)) := by go_grown
  have X1 : XBox (w.alloc (.cells (evCells ⟨0, 0, 0, [], zeroTy, []⟩ (.slice none 0 0) (.slice none 0 0)) 32)) w.heap.size ⟨0, 0, 0, [], zeroTy, []⟩ (.slice none 0 0) (.slice none 0 0) := XBox.new _ _ _ _
  have hR1 := hR.keep B1
  have hg1 := grown_belowB (grown_refl w b) B1
  have hbw : b < w.heap.size := hR.lt
  refine (HONE.out _ hR1).mono ?_
  rintro e w2 ⟨rfl, hg2, hR2⟩
  have hgw := grown_trans hg1 hg2
  have X2 := X1.grown hg2 (by omega)
  have hq1 : w.heap.size < w2.heap.size := X2.c.lt
  clear hR c0 c1 fr lt hR1 hg1 hg2 B1 X1
  obtain ⟨c0, c1, fr, lt⟩ := id hR2
  go_wp2_with fail
  have B3 : Below w2.heap.size w2 (w2.alloc (.cells (evCells ⟨K, 0, 0, [], zeroTy, []⟩ (.slice none 0 0) (.slice none 0 0)) 32)) := by go_grown
  have Y3 : XBox (w2.alloc (.cells (evCells ⟨K, 0, 0, [], zeroTy, []⟩ (.slice none 0 0) (.slice none 0 0)) 32)) w2.heap.size ⟨K, 0, 0, [], zeroTy, []⟩ (.slice none 0 0) (.slice none 0 0) := XBox.new _ _ _ _
  have hbad := wone_bad l b (w2.alloc (.cells (evCells ⟨K, 0, 0, [], zeroTy, []⟩ (.slice none 0 0) (.slice none 0 0)) 32)) hl (by rw [← hn]; exact hR2.keep B3)
  refine hbad.mono ?_
  rintro e w4 ⟨rfl, hg4⟩
  go_wp2_with fail
  exact ⟨rfl, grown_trans (grown_belowB hgw B3) hg4, by rw [hn]⟩)
set_option maxHeartbeats 4000000 in
theorem wrev_vx (l : Str) (b p : Nat) (c : UInt8) (w : World) (hl : l.length ≤ 1048576) (hc : l[p]? = some c) (hk : c.toNat = 2 ∨ c.toNat = 3) (hR : RBox w b l p) (S : World → Prop) (hS : Kept b S) (hw0 : S w) (v : UInt8) (hv : l[p + 1]? = some v) (hx : v.toNat < 1 ∨ 3 < v.toNat) :
  Calls Tryz.prog 34 #[.pointer (some ⟨b, 0, none⟩)] w fun e w' => EvAns w b l (.error (p + 1)) e w' := by
 have hp1 : p + 1 ≤ l.length := at_lt hc
 have hone := fun (W : World) (hR : RBox W b l p) => wone_ok l b p c W hl hR hc
 have HONE := Lib.hid hone
 obtain ⟨c0, c1, fr, lt⟩ := id hR
 have hc256 : c.toNat < 256 := c.toNat_lt
 have hw : wrap64 (c.toNat : Int) = (c.toNat : Int) := by unfold wrap64; omega
 have HK := Lib.hid hk
 have h23 : ((c.toNat : Int) == 2) = true ∨ (((c.toNat : Int) == 2) = false ∧ ((c.toNat : Int) == 3) = true) := by
  rcases hk with h | h
  ·exact .inl (by rw [beq_iff_eq]; omega)
  ·exact .inr ⟨by rw [beq_eq_false_iff_ne]; omega, by rw [beq_iff_eq]; omega⟩
 have hp2 : p + 2 ≤ l.length := at_lt hv
 have hone2 := fun (W : World) (hR : RBox W b l (p + 1)) => wone_ok l b (p + 1) v W hl hR hv
 have hv256 : v.toNat < 256 := v.toNat_lt
 have hwv : wrap64 (v.toNat : Int) = (v.toNat : Int) := by unfold wrap64; omega
 have v1 : ((v.toNat : Int) == 1) = false := by rw [beq_eq_false_iff_ne]; omega
 have v2 : ((v.toNat : Int) == 2) = false := by rw [beq_eq_false_iff_ne]; omega
 have v3 : ((v.toNat : Int) == 3) = false := by rw [beq_eq_false_iff_ne]; omega
 obtain ⟨V, hV⟩ : ∃ V, v.toNat = V := ⟨_, rfl⟩
 rw [hV] at hone2 hv256 hwv v1 v2 v3 hx
 have HONE2 := Lib.hid hone2
 clear hone2 hV hv v
 clear hone hc hk
 obtain ⟨K, hK⟩ : ∃ K, c.toNat = K := ⟨_, rfl⟩
 rw [hK] at h23 hc256 hw HONE HK 
 try rw [hK]
 clear hK c
 rcases h23 with h2 | ⟨h2, h3⟩
 all_goals (
  go_enter Tryz.func34, Tryz.ntmps34
  go_wp2_with fail
  have B1 : Below w.heap.size w (w.alloc (.cells (evCells ⟨0, 0, 0, [], zeroTy, []⟩ (.slice none 0 0) (.slice none 0 0)) 32)) := by go_grown
  have X1 : XBox (w.alloc (.cells (evCells ⟨0, 0, 0, [], zeroTy, []⟩ (.slice none 0 0) (.slice none 0 0)) 32)) w.heap.size ⟨0, 0, 0, [], zeroTy, []⟩ (.slice none 0 0) (.slice none 0 0) := XBox.new _ _ _ _
  have hR1 := hR.keep B1
  have hg1 := grown_belowB (grown_refl w b) B1
  have hbw : b < w.heap.size := hR.lt
  refine (HONE.out _ hR1).mono ?_
  rintro e w2 ⟨rfl, hg2, hR2⟩
  have hgw := grown_trans hg1 hg2
  have X2 := X1.grown hg2 (by omega)
  have hq1 : w.heap.size < w2.heap.size := X2.c.lt
  clear hR c0 c1 fr lt hR1 hg1 hg2 B1 X1
  obtain ⟨c0, c1, fr, lt⟩ := id hR2
  go_wp2_with fail
  have B3 : Below w2.heap.size w2 (w2.alloc (.cells (evCells ⟨K, 0, 0, [], zeroTy, []⟩ (.slice none 0 0) (.slice none 0 0)) 32)) := by go_grown
  have Y3 : XBox (w2.alloc (.cells (evCells ⟨K, 0, 0, [], zeroTy, []⟩ (.slice none 0 0) (.slice none 0 0)) 32)) w2.heap.size ⟨K, 0, 0, [], zeroTy, []⟩ (.slice none 0 0) (.slice none 0 0) := XBox.new _ _ _ _
  refine (HONE2.out _ (hR2.keep B3)).mono ?_
  have hgw3 := grown_belowB hgw B3
  have X3 := X2.keep B3
  clear hgw X2 hR2 B3 c0 c1 fr
  rintro e w4 ⟨rfl, hg4, hR4⟩
  have Y4 := Y3.grown hg4 (by omega)
  have X4 := X3.grown hg4 (by omega)
  have hgw4 := grown_trans hgw3 hg4
  have hq4 : w2.heap.size < w4.heap.size := Y4.c.lt
  clear Y3 X3 hgw3 hg4
  obtain ⟨Q2, hQ2⟩ : ∃ Q, w2.heap.size = Q := ⟨_, rfl⟩
  rw [hQ2] at Y4 hq1 lt hq4 ⊢
  clear hQ2 w2
  obtain ⟨y0, y1, y2, y3, y4, y5, y6, y7, y8, y9⟩ := Y4.c.box
  have yf := Y4.fr
  obtain ⟨c0, c1, fr, lt2⟩ := id hR4
  have nqb : ¬ Q2 = b := by omega
  have nbq : ¬ b = Q2 := by omega
  go_wp2_with fail
  exact ⟨rfl, grown_far hgw4 (by simp only; omega) _, rfl⟩)
set_option maxHeartbeats 4000000 in
theorem wrev_n0 (l : Str) (b p : Nat) (c : UInt8) (w : World) (hl : l.length ≤ 1048576) (hc : l[p]? = some c) (hk : c.toNat = 2 ∨ c.toNat = 3) (hR : RBox w b l p) (S : World → Prop) (hS : Kept b S) (hw0 : S w) (v : UInt8) (hv : l[p + 1]? = some v) (hx : v.toNat = 1) (q : Nat) (hq : wnum l (p + 2) = .error q) :
  Calls Tryz.prog 34 #[.pointer (some ⟨b, 0, none⟩)] w fun e w' => EvAns w b l (.error q) e w' := by
 have hp1 : p + 1 ≤ l.length := at_lt hc
 have hone := fun (W : World) (hR : RBox W b l p) => wone_ok l b p c W hl hR hc
 have HONE := Lib.hid hone
 obtain ⟨c0, c1, fr, lt⟩ := id hR
 have hc256 : c.toNat < 256 := c.toNat_lt
 have hw : wrap64 (c.toNat : Int) = (c.toNat : Int) := by unfold wrap64; omega
 have HK := Lib.hid hk
 have h23 : ((c.toNat : Int) == 2) = true ∨ (((c.toNat : Int) == 2) = false ∧ ((c.toNat : Int) == 3) = true) := by
  rcases hk with h | h
  ·exact .inl (by rw [beq_iff_eq]; omega)
  ·exact .inr ⟨by rw [beq_eq_false_iff_ne]; omega, by rw [beq_iff_eq]; omega⟩
 have hp2 : p + 2 ≤ l.length := at_lt hv
 have hone2 := fun (W : World) (hR : RBox W b l (p + 1)) => wone_ok l b (p + 1) v W hl hR hv
 have hv256 : v.toNat < 256 := v.toNat_lt
 have hwv : wrap64 (v.toNat : Int) = (v.toNat : Int) := by unfold wrap64; omega
 have v1 : ((v.toNat : Int) == 1) = true := by rw [beq_iff_eq]; omega
 obtain ⟨V, hV⟩ : ∃ V, v.toNat = V := ⟨_, rfl⟩
 rw [hV] at hone2 hv256 hwv v1 hx
 have HONE2 := Lib.hid hone2
 clear hone2 hV hv v
 have hnum := fun (W : World) (hR : RBox W b l (p + 2)) => wrnum_any l b (p + 2) W hl hp2 hR
 rw [hq] at hnum
 have HN := Lib.hid hnum
 clear hnum hq
 clear hone hc hk
 obtain ⟨K, hK⟩ : ∃ K, c.toNat = K := ⟨_, rfl⟩
 rw [hK] at h23 hc256 hw HONE HK 
 try rw [hK]
 clear hK c
 rcases h23 with h2 | ⟨h2, h3⟩
 all_goals (
  go_enter Tryz.func34, Tryz.ntmps34
  go_wp2_with fail
  have B1 : Below w.heap.size w (w.alloc (.cells (evCells ⟨0, 0, 0, [], zeroTy, []⟩ (.slice none 0 0) (.slice none 0 0)) 32)) := by go_grown
  have X1 : XBox (w.alloc (.cells (evCells ⟨0, 0, 0, [], zeroTy, []⟩ (.slice none 0 0) (.slice none 0 0)) 32)) w.heap.size ⟨0, 0, 0, [], zeroTy, []⟩ (.slice none 0 0) (.slice none 0 0) := XBox.new _ _ _ _
  have hR1 := hR.keep B1
  have hg1 := grown_belowB (grown_refl w b) B1
  have hbw : b < w.heap.size := hR.lt
  refine (HONE.out _ hR1).mono ?_
  rintro e w2 ⟨rfl, hg2, hR2⟩
  have hgw := grown_trans hg1 hg2
  have X2 := X1.grown hg2 (by omega)
  have hq1 : w.heap.size < w2.heap.size := X2.c.lt
  clear hR c0 c1 fr lt hR1 hg1 hg2 B1 X1
  obtain ⟨c0, c1, fr, lt⟩ := id hR2
  go_wp2_with fail
  have B3 : Below w2.heap.size w2 (w2.alloc (.cells (evCells ⟨K, 0, 0, [], zeroTy, []⟩ (.slice none 0 0) (.slice none 0 0)) 32)) := by go_grown
  have Y3 : XBox (w2.alloc (.cells (evCells ⟨K, 0, 0, [], zeroTy, []⟩ (.slice none 0 0) (.slice none 0 0)) 32)) w2.heap.size ⟨K, 0, 0, [], zeroTy, []⟩ (.slice none 0 0) (.slice none 0 0) := XBox.new _ _ _ _
  refine (HONE2.out _ (hR2.keep B3)).mono ?_
  have hgw3 := grown_belowB hgw B3
  have X3 := X2.keep B3
  clear hgw X2 hR2 B3 c0 c1 fr
  rintro e w4 ⟨rfl, hg4, hR4⟩
  have Y4 := Y3.grown hg4 (by omega)
  have X4 := X3.grown hg4 (by omega)
  have hgw4 := grown_trans hgw3 hg4
  have hq4 : w2.heap.size < w4.heap.size := Y4.c.lt
  clear Y3 X3 hgw3 hg4
  obtain ⟨Q2, hQ2⟩ : ∃ Q, w2.heap.size = Q := ⟨_, rfl⟩
  rw [hQ2] at Y4 hq1 lt hq4 ⊢
  clear hQ2 w2
  obtain ⟨y0, y1, y2, y3, y4, y5, y6, y7, y8, y9⟩ := Y4.c.box
  have yf := Y4.fr
  obtain ⟨c0, c1, fr, lt2⟩ := id hR4
  have nqb : ¬ Q2 = b := by omega
  have nbq : ¬ b = Q2 := by omega
  go_wp2_with fail
  have Y5 : XBox (w4.setCell ⟨Q2, 1, none⟩ (.int .i64 1)) Q2 ⟨K, 1, 0, [], zeroTy, []⟩ (.slice none 0 0) (.slice none 0 0) := Y4.set_vs 1
  have X5 : XBox (w4.setCell ⟨Q2, 1, none⟩ (.int .i64 1)) w.heap.size ⟨0, 0, 0, [], zeroTy, []⟩ (.slice none 0 0) (.slice none 0 0) := X4.far (by simp only; omega) _
  have hR5 : RBox (w4.setCell ⟨Q2, 1, none⟩ (.int .i64 1)) b l (p + 2) := hR4.far (by simp only; omega) _
  have hgw5 : w.grownBy (w4.setCell ⟨Q2, 1, none⟩ (.int .i64 1)) (some b) := grown_far hgw4 (by simp only; omega) _
  clear Y4 X4 hR4 hgw4 y0 y1 y2 y3 y4 y5 y6 y7 y8 y9 yf c0 c1 fr
  generalize w4.setCell ⟨Q2, 1, none⟩ (.int .i64 1) = w5 at Y5 X5 hR5 hgw5 ⊢
  clear hq4 lt2
  clear w4
  refine (HN.out _ hR5).mono ?_
  rintro e w6 ⟨hg6, he⟩
  simp only at he
  subst he
  go_wp2_with fail
  exact ⟨rfl, grown_trans hgw5 hg6, rfl⟩)
set_option maxHeartbeats 4000000 in
theorem wrev_t0 (l : Str) (b p : Nat) (c : UInt8) (w : World) (hl : l.length ≤ 1048576) (hc : l[p]? = some c) (hk : c.toNat = 2 ∨ c.toNat = 3) (hR : RBox w b l p) (S : World → Prop) (hS : Kept b S) (hw0 : S w) (v : UInt8) (hv : l[p + 1]? = some v) (hx : v.toNat = 3) (q : Nat) (hq : rtext l (p + 2) = .error q) :
  Calls Tryz.prog 34 #[.pointer (some ⟨b, 0, none⟩)] w fun e w' => EvAns w b l (.error q) e w' := by
 have hp1 : p + 1 ≤ l.length := at_lt hc
 have hone := fun (W : World) (hR : RBox W b l p) => wone_ok l b p c W hl hR hc
 have HONE := Lib.hid hone
 obtain ⟨c0, c1, fr, lt⟩ := id hR
 have hc256 : c.toNat < 256 := c.toNat_lt
 have hw : wrap64 (c.toNat : Int) = (c.toNat : Int) := by unfold wrap64; omega
 have HK := Lib.hid hk
 have h23 : ((c.toNat : Int) == 2) = true ∨ (((c.toNat : Int) == 2) = false ∧ ((c.toNat : Int) == 3) = true) := by
  rcases hk with h | h
  ·exact .inl (by rw [beq_iff_eq]; omega)
  ·exact .inr ⟨by rw [beq_eq_false_iff_ne]; omega, by rw [beq_iff_eq]; omega⟩
 have hp2 : p + 2 ≤ l.length := at_lt hv
 have hone2 := fun (W : World) (hR : RBox W b l (p + 1)) => wone_ok l b (p + 1) v W hl hR hv
 have hv256 : v.toNat < 256 := v.toNat_lt
 have hwv : wrap64 (v.toNat : Int) = (v.toNat : Int) := by unfold wrap64; omega
 have v1 : ((v.toNat : Int) == 1) = false := by rw [beq_eq_false_iff_ne]; omega
 have v2 : ((v.toNat : Int) == 2) = false := by rw [beq_eq_false_iff_ne]; omega
 have v3 : ((v.toNat : Int) == 3) = true := by rw [beq_iff_eq]; omega
 obtain ⟨V, hV⟩ : ∃ V, v.toNat = V := ⟨_, rfl⟩
 rw [hV] at hone2 hv256 hwv v1 v2 v3 hx
 have HONE2 := Lib.hid hone2
 clear hone2 hV hv v
 have hnum := fun (W : World) (hR : RBox W b l (p + 2)) => wrtext_any l b (p + 2) W hl hp2 hR
 rw [hq] at hnum
 have HN := Lib.hid hnum
 clear hnum hq
 clear hone hc hk
 obtain ⟨K, hK⟩ : ∃ K, c.toNat = K := ⟨_, rfl⟩
 rw [hK] at h23 hc256 hw HONE HK 
 try rw [hK]
 clear hK c
 rcases h23 with h2 | ⟨h2, h3⟩
 all_goals (
  go_enter Tryz.func34, Tryz.ntmps34
  go_wp2_with fail
  have B1 : Below w.heap.size w (w.alloc (.cells (evCells ⟨0, 0, 0, [], zeroTy, []⟩ (.slice none 0 0) (.slice none 0 0)) 32)) := by go_grown
  have X1 : XBox (w.alloc (.cells (evCells ⟨0, 0, 0, [], zeroTy, []⟩ (.slice none 0 0) (.slice none 0 0)) 32)) w.heap.size ⟨0, 0, 0, [], zeroTy, []⟩ (.slice none 0 0) (.slice none 0 0) := XBox.new _ _ _ _
  have hR1 := hR.keep B1
  have hg1 := grown_belowB (grown_refl w b) B1
  have hbw : b < w.heap.size := hR.lt
  refine (HONE.out _ hR1).mono ?_
  rintro e w2 ⟨rfl, hg2, hR2⟩
  have hgw := grown_trans hg1 hg2
  have X2 := X1.grown hg2 (by omega)
  have hq1 : w.heap.size < w2.heap.size := X2.c.lt
  clear hR c0 c1 fr lt hR1 hg1 hg2 B1 X1
  obtain ⟨c0, c1, fr, lt⟩ := id hR2
  go_wp2_with fail
  have B3 : Below w2.heap.size w2 (w2.alloc (.cells (evCells ⟨K, 0, 0, [], zeroTy, []⟩ (.slice none 0 0) (.slice none 0 0)) 32)) := by go_grown
  have Y3 : XBox (w2.alloc (.cells (evCells ⟨K, 0, 0, [], zeroTy, []⟩ (.slice none 0 0) (.slice none 0 0)) 32)) w2.heap.size ⟨K, 0, 0, [], zeroTy, []⟩ (.slice none 0 0) (.slice none 0 0) := XBox.new _ _ _ _
  refine (HONE2.out _ (hR2.keep B3)).mono ?_
  have hgw3 := grown_belowB hgw B3
  have X3 := X2.keep B3
  clear hgw X2 hR2 B3 c0 c1 fr
  rintro e w4 ⟨rfl, hg4, hR4⟩
  have Y4 := Y3.grown hg4 (by omega)
  have X4 := X3.grown hg4 (by omega)
  have hgw4 := grown_trans hgw3 hg4
  have hq4 : w2.heap.size < w4.heap.size := Y4.c.lt
  clear Y3 X3 hgw3 hg4
  obtain ⟨Q2, hQ2⟩ : ∃ Q, w2.heap.size = Q := ⟨_, rfl⟩
  rw [hQ2] at Y4 hq1 lt hq4 ⊢
  clear hQ2 w2
  obtain ⟨y0, y1, y2, y3, y4, y5, y6, y7, y8, y9⟩ := Y4.c.box
  have yf := Y4.fr
  obtain ⟨c0, c1, fr, lt2⟩ := id hR4
  have nqb : ¬ Q2 = b := by omega
  have nbq : ¬ b = Q2 := by omega
  go_wp2_with fail
  have Y5 : XBox (w4.setCell ⟨Q2, 1, none⟩ (.int .i64 3)) Q2 ⟨K, 3, 0, [], zeroTy, []⟩ (.slice none 0 0) (.slice none 0 0) := Y4.set_vs 3
  have X5 : XBox (w4.setCell ⟨Q2, 1, none⟩ (.int .i64 3)) w.heap.size ⟨0, 0, 0, [], zeroTy, []⟩ (.slice none 0 0) (.slice none 0 0) := X4.far (by simp only; omega) _
  have hR5 : RBox (w4.setCell ⟨Q2, 1, none⟩ (.int .i64 3)) b l (p + 2) := hR4.far (by simp only; omega) _
  have hgw5 : w.grownBy (w4.setCell ⟨Q2, 1, none⟩ (.int .i64 3)) (some b) := grown_far hgw4 (by simp only; omega) _
  clear Y4 X4 hR4 hgw4 y0 y1 y2 y3 y4 y5 y6 y7 y8 y9 yf c0 c1 fr
  generalize w4.setCell ⟨Q2, 1, none⟩ (.int .i64 3) = w5 at Y5 X5 hR5 hgw5 ⊢
  clear hq4 lt2
  clear w4
  refine (HN.out _ hR5).mono ?_
  rintro e w6 ⟨hg6, he⟩
  simp only at he
  subst he
  go_wp2_with fail
  exact ⟨rfl, grown_trans hgw5 hg6, rfl⟩)
set_option maxHeartbeats 4000000 in
theorem wrev_b0 (l : Str) (b p : Nat) (c : UInt8) (w : World) (hl : l.length ≤ 1048576) (hc : l[p]? = some c) (hk : c.toNat = 2 ∨ c.toNat = 3) (hR : RBox w b l p) (S : World → Prop) (hS : Kept b S) (hw0 : S w) (v : UInt8) (hv : l[p + 1]? = some v) (hx : v.toNat = 2) (hn : p + 2 = l.length) :
  Calls Tryz.prog 34 #[.pointer (some ⟨b, 0, none⟩)] w fun e w' => EvAns w b l (.error (p + 2)) e w' := by
 have hp1 : p + 1 ≤ l.length := at_lt hc
 have hone := fun (W : World) (hR : RBox W b l p) => wone_ok l b p c W hl hR hc
 have HONE := Lib.hid hone
 obtain ⟨c0, c1, fr, lt⟩ := id hR
 have hc256 : c.toNat < 256 := c.toNat_lt
 have hw : wrap64 (c.toNat : Int) = (c.toNat : Int) := by unfold wrap64; omega
 have HK := Lib.hid hk
 have h23 : ((c.toNat : Int) == 2) = true ∨ (((c.toNat : Int) == 2) = false ∧ ((c.toNat : Int) == 3) = true) := by
  rcases hk with h | h
  ·exact .inl (by rw [beq_iff_eq]; omega)
  ·exact .inr ⟨by rw [beq_eq_false_iff_ne]; omega, by rw [beq_iff_eq]; omega⟩
 have hp2 : p + 2 ≤ l.length := at_lt hv
 have hone2 := fun (W : World) (hR : RBox W b l (p + 1)) => wone_ok l b (p + 1) v W hl hR hv
 have hv256 : v.toNat < 256 := v.toNat_lt
 have hwv : wrap64 (v.toNat : Int) = (v.toNat : Int) := by unfold wrap64; omega
 have v1 : ((v.toNat : Int) == 1) = false := by rw [beq_eq_false_iff_ne]; omega
 have v2 : ((v.toNat : Int) == 2) = true := by rw [beq_iff_eq]; omega
 obtain ⟨V, hV⟩ : ∃ V, v.toNat = V := ⟨_, rfl⟩
 rw [hV] at hone2 hv256 hwv v1 v2 hx
 have HONE2 := Lib.hid hone2
 clear hone2 hV hv v
 clear hone hc hk
 obtain ⟨K, hK⟩ : ∃ K, c.toNat = K := ⟨_, rfl⟩
 rw [hK] at h23 hc256 hw HONE HK 
 try rw [hK]
 clear hK c
 rcases h23 with h2 | ⟨h2, h3⟩
 all_goals (
  go_enter Tryz.func34, Tryz.ntmps34
  go_wp2_with fail
  have B1 : Below w.heap.size w (w.alloc (.cells (evCells ⟨0, 0, 0, [], zeroTy, []⟩ (.slice none 0 0) (.slice none 0 0)) 32)) := by go_grown
  have X1 : XBox (w.alloc (.cells (evCells ⟨0, 0, 0, [], zeroTy, []⟩ (.slice none 0 0) (.slice none 0 0)) 32)) w.heap.size ⟨0, 0, 0, [], zeroTy, []⟩ (.slice none 0 0) (.slice none 0 0) := XBox.new _ _ _ _
  have hR1 := hR.keep B1
  have hg1 := grown_belowB (grown_refl w b) B1
  have hbw : b < w.heap.size := hR.lt
  refine (HONE.out _ hR1).mono ?_
  rintro e w2 ⟨rfl, hg2, hR2⟩
  have hgw := grown_trans hg1 hg2
  have X2 := X1.grown hg2 (by omega)
  have hq1 : w.heap.size < w2.heap.size := X2.c.lt
  clear hR c0 c1 fr lt hR1 hg1 hg2 B1 X1
  obtain ⟨c0, c1, fr, lt⟩ := id hR2
  go_wp2_with fail
  have B3 : Below w2.heap.size w2 (w2.alloc (.cells (evCells ⟨K, 0, 0, [], zeroTy, []⟩ (.slice none 0 0) (.slice none 0 0)) 32)) := by go_grown
  have Y3 : XBox (w2.alloc (.cells (evCells ⟨K, 0, 0, [], zeroTy, []⟩ (.slice none 0 0) (.slice none 0 0)) 32)) w2.heap.size ⟨K, 0, 0, [], zeroTy, []⟩ (.slice none 0 0) (.slice none 0 0) := XBox.new _ _ _ _
  refine (HONE2.out _ (hR2.keep B3)).mono ?_
  have hgw3 := grown_belowB hgw B3
  have X3 := X2.keep B3
  clear hgw X2 hR2 B3 c0 c1 fr
  rintro e w4 ⟨rfl, hg4, hR4⟩
  have Y4 := Y3.grown hg4 (by omega)
  have X4 := X3.grown hg4 (by omega)
  have hgw4 := grown_trans hgw3 hg4
  have hq4 : w2.heap.size < w4.heap.size := Y4.c.lt
  clear Y3 X3 hgw3 hg4
  obtain ⟨Q2, hQ2⟩ : ∃ Q, w2.heap.size = Q := ⟨_, rfl⟩
  rw [hQ2] at Y4 hq1 lt hq4 ⊢
  clear hQ2 w2
  obtain ⟨y0, y1, y2, y3, y4, y5, y6, y7, y8, y9⟩ := Y4.c.box
  have yf := Y4.fr
  obtain ⟨c0, c1, fr, lt2⟩ := id hR4
  have nqb : ¬ Q2 = b := by omega
  have nbq : ¬ b = Q2 := by omega
  go_wp2_with fail
  have Y5 : XBox (w4.setCell ⟨Q2, 1, none⟩ (.int .i64 2)) Q2 ⟨K, 2, 0, [], zeroTy, []⟩ (.slice none 0 0) (.slice none 0 0) := Y4.set_vs 2
  have X5 : XBox (w4.setCell ⟨Q2, 1, none⟩ (.int .i64 2)) w.heap.size ⟨0, 0, 0, [], zeroTy, []⟩ (.slice none 0 0) (.slice none 0 0) := X4.far (by simp only; omega) _
  have hR5 : RBox (w4.setCell ⟨Q2, 1, none⟩ (.int .i64 2)) b l (p + 2) := hR4.far (by simp only; omega) _
  have hgw5 : w.grownBy (w4.setCell ⟨Q2, 1, none⟩ (.int .i64 2)) (some b) := grown_far hgw4 (by simp only; omega) _
  clear Y4 X4 hR4 hgw4 y0 y1 y2 y3 y4 y5 y6 y7 y8 y9 yf c0 c1 fr
  generalize w4.setCell ⟨Q2, 1, none⟩ (.int .i64 2) = w5 at Y5 X5 hR5 hgw5 ⊢
  clear hq4 lt2
  clear w4
  refine (wone_bad l b w5 hl (by rw [← hn]; exact hR5)).mono ?_
  rintro e w6 ⟨rfl, hg6⟩
  go_wp2_with fail
  exact ⟨rfl, grown_trans hgw5 hg6, by rw [hn]⟩)
set_option maxHeartbeats 4000000 in
theorem wrev_n1 (l : Str) (b p : Nat) (c : UInt8) (w : World) (hl : l.length ≤ 1048576) (hc : l[p]? = some c) (hk : c.toNat = 2 ∨ c.toNat = 3) (hR : RBox w b l p) (S : World → Prop) (hS : Kept b S) (hw0 : S w) (v : UInt8) (hv : l[p + 1]? = some v) (hx : v.toNat = 1) (n q : Nat) (hq : wnum l (p + 2) = .ok (n, q)) :
  Calls Tryz.prog 34 #[.pointer (some ⟨b, 0, none⟩)] w fun e w' => EvAns w b l (.ok (⟨c.toNat, 1, unzig n, [], zeroTy, []⟩, q)) e w' := by
 have hp1 : p + 1 ≤ l.length := at_lt hc
 have hone := fun (W : World) (hR : RBox W b l p) => wone_ok l b p c W hl hR hc
 have HONE := Lib.hid hone
 obtain ⟨c0, c1, fr, lt⟩ := id hR
 have hc256 : c.toNat < 256 := c.toNat_lt
 have hw : wrap64 (c.toNat : Int) = (c.toNat : Int) := by unfold wrap64; omega
 have HK := Lib.hid hk
 have h23 : ((c.toNat : Int) == 2) = true ∨ (((c.toNat : Int) == 2) = false ∧ ((c.toNat : Int) == 3) = true) := by
  rcases hk with h | h
  ·exact .inl (by rw [beq_iff_eq]; omega)
  ·exact .inr ⟨by rw [beq_eq_false_iff_ne]; omega, by rw [beq_iff_eq]; omega⟩
 have hp2 : p + 2 ≤ l.length := at_lt hv
 have hone2 := fun (W : World) (hR : RBox W b l (p + 1)) => wone_ok l b (p + 1) v W hl hR hv
 have hv256 : v.toNat < 256 := v.toNat_lt
 have hwv : wrap64 (v.toNat : Int) = (v.toNat : Int) := by unfold wrap64; omega
 have v1 : ((v.toNat : Int) == 1) = true := by rw [beq_iff_eq]; omega
 obtain ⟨V, hV⟩ : ∃ V, v.toNat = V := ⟨_, rfl⟩
 rw [hV] at hone2 hv256 hwv v1 hx
 have HONE2 := Lib.hid hone2
 clear hone2 hV hv v
 have hnum := fun (W : World) (hR : RBox W b l (p + 2)) => wrnum_any l b (p + 2) W hl hp2 hR
 rw [hq] at hnum
 have HN := Lib.hid hnum
 have hn64 := wnum_lt hq
 have hz := zig_back n hn64
 have hun := unzig_in hn64
 clear hnum hq
 have HF : Hid (EvFit ⟨c.toNat, 1, (unzig n), [], zeroTy, []⟩) := Lib.hid ⟨by simp only; omega, by simp only; omega, hun.1, hun.2, by simp, fit_no, by simp⟩
 have HE : Hid (wchk (tyErr (⟨c.toNat, 1, (unzig n), [], zeroTy, []⟩ : Ev).ty) (isName (⟨c.toNat, 1, (unzig n), [], zeroTy, []⟩ : Ev).label) ⟨c.toNat, 1, (unzig n), [], zeroTy, []⟩ = 0) := Lib.hid (by
  show (if (c.toNat : Int) = 2 ∨ (c.toNat : Int) = 3 then vchk 1 (unzig n) [] else _) = _
  rw [if_pos (by omega)]
  simp [vchk])
 clear hun hn64
 generalize unzig n = N at hz HF HE ⊢
 clear hone hc hk
 obtain ⟨K, hK⟩ : ∃ K, c.toNat = K := ⟨_, rfl⟩
 rw [hK] at h23 hc256 hw HONE HK HF HE
 try rw [hK]
 clear hK c
 rcases h23 with h2 | ⟨h2, h3⟩
 all_goals (
  go_enter Tryz.func34, Tryz.ntmps34
  go_wp2_with fail
  have B1 : Below w.heap.size w (w.alloc (.cells (evCells ⟨0, 0, 0, [], zeroTy, []⟩ (.slice none 0 0) (.slice none 0 0)) 32)) := by go_grown
  have X1 : XBox (w.alloc (.cells (evCells ⟨0, 0, 0, [], zeroTy, []⟩ (.slice none 0 0) (.slice none 0 0)) 32)) w.heap.size ⟨0, 0, 0, [], zeroTy, []⟩ (.slice none 0 0) (.slice none 0 0) := XBox.new _ _ _ _
  have hR1 := hR.keep B1
  have hg1 := grown_belowB (grown_refl w b) B1
  have hbw : b < w.heap.size := hR.lt
  refine (HONE.out _ hR1).mono ?_
  rintro e w2 ⟨rfl, hg2, hR2⟩
  have hgw := grown_trans hg1 hg2
  have X2 := X1.grown hg2 (by omega)
  have hq1 : w.heap.size < w2.heap.size := X2.c.lt
  clear hR c0 c1 fr lt hR1 hg1 hg2 B1 X1
  obtain ⟨c0, c1, fr, lt⟩ := id hR2
  go_wp2_with fail
  have B3 : Below w2.heap.size w2 (w2.alloc (.cells (evCells ⟨K, 0, 0, [], zeroTy, []⟩ (.slice none 0 0) (.slice none 0 0)) 32)) := by go_grown
  have Y3 : XBox (w2.alloc (.cells (evCells ⟨K, 0, 0, [], zeroTy, []⟩ (.slice none 0 0) (.slice none 0 0)) 32)) w2.heap.size ⟨K, 0, 0, [], zeroTy, []⟩ (.slice none 0 0) (.slice none 0 0) := XBox.new _ _ _ _
  refine (HONE2.out _ (hR2.keep B3)).mono ?_
  have hgw3 := grown_belowB hgw B3
  have X3 := X2.keep B3
  clear hgw X2 hR2 B3 c0 c1 fr
  rintro e w4 ⟨rfl, hg4, hR4⟩
  have Y4 := Y3.grown hg4 (by omega)
  have X4 := X3.grown hg4 (by omega)
  have hgw4 := grown_trans hgw3 hg4
  have hq4 : w2.heap.size < w4.heap.size := Y4.c.lt
  clear Y3 X3 hgw3 hg4
  obtain ⟨Q2, hQ2⟩ : ∃ Q, w2.heap.size = Q := ⟨_, rfl⟩
  rw [hQ2] at Y4 hq1 lt hq4 ⊢
  clear hQ2 w2
  obtain ⟨y0, y1, y2, y3, y4, y5, y6, y7, y8, y9⟩ := Y4.c.box
  have yf := Y4.fr
  obtain ⟨c0, c1, fr, lt2⟩ := id hR4
  have nqb : ¬ Q2 = b := by omega
  have nbq : ¬ b = Q2 := by omega
  go_wp2_with fail
  have Y5 : XBox (w4.setCell ⟨Q2, 1, none⟩ (.int .i64 1)) Q2 ⟨K, 1, 0, [], zeroTy, []⟩ (.slice none 0 0) (.slice none 0 0) := Y4.set_vs 1
  have X5 : XBox (w4.setCell ⟨Q2, 1, none⟩ (.int .i64 1)) w.heap.size ⟨0, 0, 0, [], zeroTy, []⟩ (.slice none 0 0) (.slice none 0 0) := X4.far (by simp only; omega) _
  have hR5 : RBox (w4.setCell ⟨Q2, 1, none⟩ (.int .i64 1)) b l (p + 2) := hR4.far (by simp only; omega) _
  have hgw5 : w.grownBy (w4.setCell ⟨Q2, 1, none⟩ (.int .i64 1)) (some b) := grown_far hgw4 (by simp only; omega) _
  clear Y4 X4 hR4 hgw4 y0 y1 y2 y3 y4 y5 y6 y7 y8 y9 yf c0 c1 fr
  generalize w4.setCell ⟨Q2, 1, none⟩ (.int .i64 1) = w5 at Y5 X5 hR5 hgw5 ⊢
  clear hq4 lt2
  clear w4
  refine (HN.out _ hR5).mono ?_
  rintro e w6 ⟨hg6, he, hR6⟩
  simp only at he hR6
  subst he
  have Y6 := Y5.grown hg6 (by omega)
  have X6 := X5.grown hg6 (by omega)
  have hgw6 := grown_trans hgw5 hg6
  clear Y5 X5 hgw5 hg6 hR5
  clear w5
  obtain ⟨y0, y1, y2, y3, y4, y5, y6, y7, y8, y9⟩ := Y6.c.box
  have yf := Y6.fr
  go_wp2_with fail
  have Y7 : XBox (w6.setCell ⟨Q2, 2, none⟩ (.int .i64 N)) Q2 ⟨K, 1, N, [], zeroTy, []⟩ (.slice none 0 0) (.slice none 0 0) := Y6.set_vn N
  have X7 : XBox (w6.setCell ⟨Q2, 2, none⟩ (.int .i64 N)) w.heap.size ⟨0, 0, 0, [], zeroTy, []⟩ (.slice none 0 0) (.slice none 0 0) := X6.far (by simp only; omega) _
  have hR7 : RBox (w6.setCell ⟨Q2, 2, none⟩ (.int .i64 N)) b l q := hR6.far (by simp only; omega) _
  have hgw7 : w.grownBy (w6.setCell ⟨Q2, 2, none⟩ (.int .i64 N)) (some b) := grown_far hgw6 (by simp only; omega) _
  clear Y6 X6 hR6 hgw6 y0 y1 y2 y3 y4 y5 y6 y7 y8 y9 yf
  generalize w6.setCell ⟨Q2, 2, none⟩ (.int .i64 N) = w7 at Y7 X7 hR7 hgw7 ⊢
  have hS7 := hS.k _ _ hw0 hgw7
  refine (wcheck_any ⟨K, 1, N, [], zeroTy, []⟩ _ w7 ⟨_, _, rfl, no_strs' _ _, no_tys _ _⟩ HF.out (hS.t _ hS7)).mono ?_
  rw [HE.out]
  clear HE HF hS7
  rintro e w8 ⟨rfl, hb8⟩
  have Y8 := Y7.keep hb8
  have X8 := X7.keep hb8
  have hR8 := hR7.keep hb8
  have hgw8 := grown_belowB hgw7 hb8
  clear Y7 X7 hR7 hgw7 hb8
  clear w7
  obtain ⟨y0, y1, y2, y3, y4, y5, y6, y7, y8, y9⟩ := Y8.c.box
  obtain ⟨x0, x1, x2, x3, x4, x5, x6, x7, x8, x9⟩ := X8.c.box
  have xf := X8.fr
  go_wp2_with fail
  obtain ⟨F1, F2, F3, F4⟩ := fin_box X8 hR8 hgw8 (by omega) (Nat.le_refl _) ⟨K, 1, N, [], zeroTy, []⟩ (.slice none 0 0) (.slice none 0 0)
  simp only at F1 F2 F3 F4
  generalize ((((((((((w8.setCell ⟨w.heap.size, 0, none⟩ (.int .i64 (K : Int))).setCell ⟨w.heap.size, 1, none⟩ (.int .i64 1)).setCell ⟨w.heap.size, 2, none⟩ (.int .i64 N)).setCell ⟨w.heap.size, 3, none⟩ (.string ⟨#[]⟩)).setCell ⟨w.heap.size, 4, none⟩ (.int .i64 zeroTy.kind)).setCell ⟨w.heap.size, 5, none⟩ (.int .i64 zeroTy.sort)).setCell ⟨w.heap.size, 6, none⟩ (.string ⟨zeroTy.name.toArray⟩)).setCell ⟨w.heap.size, 7, none⟩ (.slice none 0 0)).setCell ⟨w.heap.size, 8, none⟩ (.slice none 0 0)).setCell ⟨w.heap.size, 9, none⟩ (.string ⟨#[]⟩)) = w9 at F1 F2 F3 F4 ⊢
  obtain ⟨z0, z1, z2, z3, z4, z5, z6, z7, z8, z9⟩ := F1.c.box
  refine bodyPost_ret (v := evAgg ⟨K, 1, N, [], zeroTy, []⟩ (.slice none 0 0) (.slice none 0 0)) (by simp [results, Tryz.results34, go_sem, z0, z1, z2, z3, z4, z5, z6, z7, z8, z9]) rfl ?_
  exact ⟨F3, _, rfl, ⟨_, _, rfl, no_strs' _ _, no_tys _ _⟩, F2⟩)
set_option maxHeartbeats 4000000 in
theorem wrev_b1 (l : Str) (b p : Nat) (c : UInt8) (w : World) (hl : l.length ≤ 1048576) (hc : l[p]? = some c) (hk : c.toNat = 2 ∨ c.toNat = 3) (hR : RBox w b l p) (S : World → Prop) (hS : Kept b S) (hw0 : S w) (v : UInt8) (hv : l[p + 1]? = some v) (hx : v.toNat = 2) (d : UInt8) (hd : l[p + 2]? = some d) (hd1 : d.toNat ≤ 1) :
  Calls Tryz.prog 34 #[.pointer (some ⟨b, 0, none⟩)] w fun e w' => EvAns w b l (.ok (⟨c.toNat, 2, d.toNat, [], zeroTy, []⟩, p + 3)) e w' := by
 have hp1 : p + 1 ≤ l.length := at_lt hc
 have hone := fun (W : World) (hR : RBox W b l p) => wone_ok l b p c W hl hR hc
 have HONE := Lib.hid hone
 obtain ⟨c0, c1, fr, lt⟩ := id hR
 have hc256 : c.toNat < 256 := c.toNat_lt
 have hw : wrap64 (c.toNat : Int) = (c.toNat : Int) := by unfold wrap64; omega
 have HK := Lib.hid hk
 have h23 : ((c.toNat : Int) == 2) = true ∨ (((c.toNat : Int) == 2) = false ∧ ((c.toNat : Int) == 3) = true) := by
  rcases hk with h | h
  ·exact .inl (by rw [beq_iff_eq]; omega)
  ·exact .inr ⟨by rw [beq_eq_false_iff_ne]; omega, by rw [beq_iff_eq]; omega⟩
 have hp2 : p + 2 ≤ l.length := at_lt hv
 have hone2 := fun (W : World) (hR : RBox W b l (p + 1)) => wone_ok l b (p + 1) v W hl hR hv
 have hv256 : v.toNat < 256 := v.toNat_lt
 have hwv : wrap64 (v.toNat : Int) = (v.toNat : Int) := by unfold wrap64; omega
 have v1 : ((v.toNat : Int) == 1) = false := by rw [beq_eq_false_iff_ne]; omega
 have v2 : ((v.toNat : Int) == 2) = true := by rw [beq_iff_eq]; omega
 obtain ⟨V, hV⟩ : ∃ V, v.toNat = V := ⟨_, rfl⟩
 rw [hV] at hone2 hv256 hwv v1 v2 hx
 have HONE2 := Lib.hid hone2
 clear hone2 hV hv v
 have hwc : wrap64 (d.toNat : Int) = (d.toNat : Int) := by have := d.toNat_lt; unfold wrap64; omega
 have hd256 : d.toNat < 256 := d.toNat_lt
 have hcall := fun (W : World) (hR : RBox W b l (p + 2)) => wone_ok l b (p + 2) d W hl hR hd
 obtain ⟨D, hD⟩ : ∃ D, d.toNat = D := ⟨_, rfl⟩
 rw [hD] at hwc hd256 hcall hd1
 have HN := Lib.hid hcall
 try rw [hD]
 clear hcall hD hd d
 have HF : Hid (EvFit ⟨c.toNat, 2, D, [], zeroTy, []⟩) := Lib.hid ⟨by simp only; omega, by simp only; omega, by simp only; omega, by simp only; omega, by simp, fit_no, by simp⟩
 have HE : Hid (wchk (tyErr (⟨c.toNat, 2, D, [], zeroTy, []⟩ : Ev).ty) (isName (⟨c.toNat, 2, D, [], zeroTy, []⟩ : Ev).label) ⟨c.toNat, 2, D, [], zeroTy, []⟩ = 0) := Lib.hid (by
  show (if (c.toNat : Int) = 2 ∨ (c.toNat : Int) = 3 then vchk 2 D [] else _) = _
  rw [if_pos (by omega)]
  unfold vchk; rw [if_neg (by omega), if_pos ⟨rfl, .inr ⟨rfl, by omega⟩⟩])
 clear hone hc hk
 obtain ⟨K, hK⟩ : ∃ K, c.toNat = K := ⟨_, rfl⟩
 rw [hK] at h23 hc256 hw HONE HK HF HE
 try rw [hK]
 clear hK c
 rcases h23 with h2 | ⟨h2, h3⟩
 all_goals (
  go_enter Tryz.func34, Tryz.ntmps34
  go_wp2_with fail
  have B1 : Below w.heap.size w (w.alloc (.cells (evCells ⟨0, 0, 0, [], zeroTy, []⟩ (.slice none 0 0) (.slice none 0 0)) 32)) := by go_grown
  have X1 : XBox (w.alloc (.cells (evCells ⟨0, 0, 0, [], zeroTy, []⟩ (.slice none 0 0) (.slice none 0 0)) 32)) w.heap.size ⟨0, 0, 0, [], zeroTy, []⟩ (.slice none 0 0) (.slice none 0 0) := XBox.new _ _ _ _
  have hR1 := hR.keep B1
  have hg1 := grown_belowB (grown_refl w b) B1
  have hbw : b < w.heap.size := hR.lt
  refine (HONE.out _ hR1).mono ?_
  rintro e w2 ⟨rfl, hg2, hR2⟩
  have hgw := grown_trans hg1 hg2
  have X2 := X1.grown hg2 (by omega)
  have hq1 : w.heap.size < w2.heap.size := X2.c.lt
  clear hR c0 c1 fr lt hR1 hg1 hg2 B1 X1
  obtain ⟨c0, c1, fr, lt⟩ := id hR2
  go_wp2_with fail
  have B3 : Below w2.heap.size w2 (w2.alloc (.cells (evCells ⟨K, 0, 0, [], zeroTy, []⟩ (.slice none 0 0) (.slice none 0 0)) 32)) := by go_grown
  have Y3 : XBox (w2.alloc (.cells (evCells ⟨K, 0, 0, [], zeroTy, []⟩ (.slice none 0 0) (.slice none 0 0)) 32)) w2.heap.size ⟨K, 0, 0, [], zeroTy, []⟩ (.slice none 0 0) (.slice none 0 0) := XBox.new _ _ _ _
  refine (HONE2.out _ (hR2.keep B3)).mono ?_
  have hgw3 := grown_belowB hgw B3
  have X3 := X2.keep B3
  clear hgw X2 hR2 B3 c0 c1 fr
  rintro e w4 ⟨rfl, hg4, hR4⟩
  have Y4 := Y3.grown hg4 (by omega)
  have X4 := X3.grown hg4 (by omega)
  have hgw4 := grown_trans hgw3 hg4
  have hq4 : w2.heap.size < w4.heap.size := Y4.c.lt
  clear Y3 X3 hgw3 hg4
  obtain ⟨Q2, hQ2⟩ : ∃ Q, w2.heap.size = Q := ⟨_, rfl⟩
  rw [hQ2] at Y4 hq1 lt hq4 ⊢
  clear hQ2 w2
  obtain ⟨y0, y1, y2, y3, y4, y5, y6, y7, y8, y9⟩ := Y4.c.box
  have yf := Y4.fr
  obtain ⟨c0, c1, fr, lt2⟩ := id hR4
  have nqb : ¬ Q2 = b := by omega
  have nbq : ¬ b = Q2 := by omega
  go_wp2_with fail
  have Y5 : XBox (w4.setCell ⟨Q2, 1, none⟩ (.int .i64 2)) Q2 ⟨K, 2, 0, [], zeroTy, []⟩ (.slice none 0 0) (.slice none 0 0) := Y4.set_vs 2
  have X5 : XBox (w4.setCell ⟨Q2, 1, none⟩ (.int .i64 2)) w.heap.size ⟨0, 0, 0, [], zeroTy, []⟩ (.slice none 0 0) (.slice none 0 0) := X4.far (by simp only; omega) _
  have hR5 : RBox (w4.setCell ⟨Q2, 1, none⟩ (.int .i64 2)) b l (p + 2) := hR4.far (by simp only; omega) _
  have hgw5 : w.grownBy (w4.setCell ⟨Q2, 1, none⟩ (.int .i64 2)) (some b) := grown_far hgw4 (by simp only; omega) _
  clear Y4 X4 hR4 hgw4 y0 y1 y2 y3 y4 y5 y6 y7 y8 y9 yf c0 c1 fr
  generalize w4.setCell ⟨Q2, 1, none⟩ (.int .i64 2) = w5 at Y5 X5 hR5 hgw5 ⊢
  clear hq4 lt2
  clear w4
  refine (HN.out _ hR5).mono ?_
  rintro e w6 ⟨rfl, hg6, hR6⟩
  have Y6 := Y5.grown hg6 (by omega)
  have X6 := X5.grown hg6 (by omega)
  have hgw6 := grown_trans hgw5 hg6
  clear Y5 X5 hgw5 hg6 hR5
  clear w5
  obtain ⟨y0, y1, y2, y3, y4, y5, y6, y7, y8, y9⟩ := Y6.c.box
  have yf := Y6.fr
  go_wp2_with fail
  have Y7 : XBox (w6.setCell ⟨Q2, 2, none⟩ (.int .i64 D)) Q2 ⟨K, 2, D, [], zeroTy, []⟩ (.slice none 0 0) (.slice none 0 0) := Y6.set_vn D
  have X7 : XBox (w6.setCell ⟨Q2, 2, none⟩ (.int .i64 D)) w.heap.size ⟨0, 0, 0, [], zeroTy, []⟩ (.slice none 0 0) (.slice none 0 0) := X6.far (by simp only; omega) _
  have hR7 : RBox (w6.setCell ⟨Q2, 2, none⟩ (.int .i64 D)) b l (p + 3) := hR6.far (by simp only; omega) _
  have hgw7 : w.grownBy (w6.setCell ⟨Q2, 2, none⟩ (.int .i64 D)) (some b) := grown_far hgw6 (by simp only; omega) _
  clear Y6 X6 hR6 hgw6 y0 y1 y2 y3 y4 y5 y6 y7 y8 y9 yf
  generalize w6.setCell ⟨Q2, 2, none⟩ (.int .i64 D) = w7 at Y7 X7 hR7 hgw7 ⊢
  have hS7 := hS.k _ _ hw0 hgw7
  refine (wcheck_any ⟨K, 2, D, [], zeroTy, []⟩ _ w7 ⟨_, _, rfl, no_strs' _ _, no_tys _ _⟩ HF.out (hS.t _ hS7)).mono ?_
  rw [HE.out]
  clear HE HF hS7
  rintro e w8 ⟨rfl, hb8⟩
  have Y8 := Y7.keep hb8
  have X8 := X7.keep hb8
  have hR8 := hR7.keep hb8
  have hgw8 := grown_belowB hgw7 hb8
  clear Y7 X7 hR7 hgw7 hb8
  clear w7
  obtain ⟨y0, y1, y2, y3, y4, y5, y6, y7, y8, y9⟩ := Y8.c.box
  obtain ⟨x0, x1, x2, x3, x4, x5, x6, x7, x8, x9⟩ := X8.c.box
  have xf := X8.fr
  go_wp2_with fail
  obtain ⟨F1, F2, F3, F4⟩ := fin_box X8 hR8 hgw8 (by omega) (Nat.le_refl _) ⟨K, 2, D, [], zeroTy, []⟩ (.slice none 0 0) (.slice none 0 0)
  simp only at F1 F2 F3 F4
  generalize ((((((((((w8.setCell ⟨w.heap.size, 0, none⟩ (.int .i64 (K : Int))).setCell ⟨w.heap.size, 1, none⟩ (.int .i64 2)).setCell ⟨w.heap.size, 2, none⟩ (.int .i64 D)).setCell ⟨w.heap.size, 3, none⟩ (.string ⟨#[]⟩)).setCell ⟨w.heap.size, 4, none⟩ (.int .i64 zeroTy.kind)).setCell ⟨w.heap.size, 5, none⟩ (.int .i64 zeroTy.sort)).setCell ⟨w.heap.size, 6, none⟩ (.string ⟨zeroTy.name.toArray⟩)).setCell ⟨w.heap.size, 7, none⟩ (.slice none 0 0)).setCell ⟨w.heap.size, 8, none⟩ (.slice none 0 0)).setCell ⟨w.heap.size, 9, none⟩ (.string ⟨#[]⟩)) = w9 at F1 F2 F3 F4 ⊢
  obtain ⟨z0, z1, z2, z3, z4, z5, z6, z7, z8, z9⟩ := F1.c.box
  refine bodyPost_ret (v := evAgg ⟨K, 2, D, [], zeroTy, []⟩ (.slice none 0 0) (.slice none 0 0)) (by simp [results, Tryz.results34, go_sem, z0, z1, z2, z3, z4, z5, z6, z7, z8, z9]) rfl ?_
  exact ⟨F3, _, rfl, ⟨_, _, rfl, no_strs' _ _, no_tys _ _⟩, F2⟩)
set_option maxHeartbeats 4000000 in
theorem wrev_b2 (l : Str) (b p : Nat) (c : UInt8) (w : World) (hl : l.length ≤ 1048576) (hc : l[p]? = some c) (hk : c.toNat = 2 ∨ c.toNat = 3) (hR : RBox w b l p) (S : World → Prop) (hS : Kept b S) (hw0 : S w) (v : UInt8) (hv : l[p + 1]? = some v) (hx : v.toNat = 2) (d : UInt8) (hd : l[p + 2]? = some d) (hd1 : 1 < d.toNat) :
  Calls Tryz.prog 34 #[.pointer (some ⟨b, 0, none⟩)] w fun e w' => EvAns w b l (.error (p + 2)) e w' := by
 have hp1 : p + 1 ≤ l.length := at_lt hc
 have hone := fun (W : World) (hR : RBox W b l p) => wone_ok l b p c W hl hR hc
 have HONE := Lib.hid hone
 obtain ⟨c0, c1, fr, lt⟩ := id hR
 have hc256 : c.toNat < 256 := c.toNat_lt
 have hw : wrap64 (c.toNat : Int) = (c.toNat : Int) := by unfold wrap64; omega
 have HK := Lib.hid hk
 have h23 : ((c.toNat : Int) == 2) = true ∨ (((c.toNat : Int) == 2) = false ∧ ((c.toNat : Int) == 3) = true) := by
  rcases hk with h | h
  ·exact .inl (by rw [beq_iff_eq]; omega)
  ·exact .inr ⟨by rw [beq_eq_false_iff_ne]; omega, by rw [beq_iff_eq]; omega⟩
 have hp2 : p + 2 ≤ l.length := at_lt hv
 have hone2 := fun (W : World) (hR : RBox W b l (p + 1)) => wone_ok l b (p + 1) v W hl hR hv
 have hv256 : v.toNat < 256 := v.toNat_lt
 have hwv : wrap64 (v.toNat : Int) = (v.toNat : Int) := by unfold wrap64; omega
 have v1 : ((v.toNat : Int) == 1) = false := by rw [beq_eq_false_iff_ne]; omega
 have v2 : ((v.toNat : Int) == 2) = true := by rw [beq_iff_eq]; omega
 obtain ⟨V, hV⟩ : ∃ V, v.toNat = V := ⟨_, rfl⟩
 rw [hV] at hone2 hv256 hwv v1 v2 hx
 have HONE2 := Lib.hid hone2
 clear hone2 hV hv v
 have hwc : wrap64 (d.toNat : Int) = (d.toNat : Int) := by have := d.toNat_lt; unfold wrap64; omega
 have hd256 : d.toNat < 256 := d.toNat_lt
 have hcall := fun (W : World) (hR : RBox W b l (p + 2)) => wone_ok l b (p + 2) d W hl hR hd
 obtain ⟨D, hD⟩ : ∃ D, d.toNat = D := ⟨_, rfl⟩
 rw [hD] at hwc hd256 hcall hd1
 have HN := Lib.hid hcall
 try rw [hD]
 clear hcall hD hd d
 have HF : Hid (EvFit ⟨c.toNat, 2, D, [], zeroTy, []⟩) := Lib.hid ⟨by simp only; omega, by simp only; omega, by simp only; omega, by simp only; omega, by simp, fit_no, by simp⟩
 have HE : Hid (wchk (tyErr (⟨c.toNat, 2, D, [], zeroTy, []⟩ : Ev).ty) (isName (⟨c.toNat, 2, D, [], zeroTy, []⟩ : Ev).label) ⟨c.toNat, 2, D, [], zeroTy, []⟩ = 1) := Lib.hid (by
  show (if (c.toNat : Int) = 2 ∨ (c.toNat : Int) = 3 then vchk 2 D [] else _) = _
  rw [if_pos (by omega)]
  unfold vchk; rw [if_neg (by omega), if_neg (by omega)])
 clear hone hc hk
 obtain ⟨K, hK⟩ : ∃ K, c.toNat = K := ⟨_, rfl⟩
 rw [hK] at h23 hc256 hw HONE HK HF HE
 try rw [hK]
 clear hK c
 rcases h23 with h2 | ⟨h2, h3⟩
 all_goals (
  go_enter Tryz.func34, Tryz.ntmps34
  go_wp2_with fail
  have B1 : Below w.heap.size w (w.alloc (.cells (evCells ⟨0, 0, 0, [], zeroTy, []⟩ (.slice none 0 0) (.slice none 0 0)) 32)) := by go_grown
  have X1 : XBox (w.alloc (.cells (evCells ⟨0, 0, 0, [], zeroTy, []⟩ (.slice none 0 0) (.slice none 0 0)) 32)) w.heap.size ⟨0, 0, 0, [], zeroTy, []⟩ (.slice none 0 0) (.slice none 0 0) := XBox.new _ _ _ _
  have hR1 := hR.keep B1
  have hg1 := grown_belowB (grown_refl w b) B1
  have hbw : b < w.heap.size := hR.lt
  refine (HONE.out _ hR1).mono ?_
  rintro e w2 ⟨rfl, hg2, hR2⟩
  have hgw := grown_trans hg1 hg2
  have X2 := X1.grown hg2 (by omega)
  have hq1 : w.heap.size < w2.heap.size := X2.c.lt
  clear hR c0 c1 fr lt hR1 hg1 hg2 B1 X1
  obtain ⟨c0, c1, fr, lt⟩ := id hR2
  go_wp2_with fail
  have B3 : Below w2.heap.size w2 (w2.alloc (.cells (evCells ⟨K, 0, 0, [], zeroTy, []⟩ (.slice none 0 0) (.slice none 0 0)) 32)) := by go_grown
  have Y3 : XBox (w2.alloc (.cells (evCells ⟨K, 0, 0, [], zeroTy, []⟩ (.slice none 0 0) (.slice none 0 0)) 32)) w2.heap.size ⟨K, 0, 0, [], zeroTy, []⟩ (.slice none 0 0) (.slice none 0 0) := XBox.new _ _ _ _
  refine (HONE2.out _ (hR2.keep B3)).mono ?_
  have hgw3 := grown_belowB hgw B3
  have X3 := X2.keep B3
  clear hgw X2 hR2 B3 c0 c1 fr
  rintro e w4 ⟨rfl, hg4, hR4⟩
  have Y4 := Y3.grown hg4 (by omega)
  have X4 := X3.grown hg4 (by omega)
  have hgw4 := grown_trans hgw3 hg4
  have hq4 : w2.heap.size < w4.heap.size := Y4.c.lt
  clear Y3 X3 hgw3 hg4
  obtain ⟨Q2, hQ2⟩ : ∃ Q, w2.heap.size = Q := ⟨_, rfl⟩
  rw [hQ2] at Y4 hq1 lt hq4 ⊢
  clear hQ2 w2
  obtain ⟨y0, y1, y2, y3, y4, y5, y6, y7, y8, y9⟩ := Y4.c.box
  have yf := Y4.fr
  obtain ⟨c0, c1, fr, lt2⟩ := id hR4
  have nqb : ¬ Q2 = b := by omega
  have nbq : ¬ b = Q2 := by omega
  go_wp2_with fail
  have Y5 : XBox (w4.setCell ⟨Q2, 1, none⟩ (.int .i64 2)) Q2 ⟨K, 2, 0, [], zeroTy, []⟩ (.slice none 0 0) (.slice none 0 0) := Y4.set_vs 2
  have X5 : XBox (w4.setCell ⟨Q2, 1, none⟩ (.int .i64 2)) w.heap.size ⟨0, 0, 0, [], zeroTy, []⟩ (.slice none 0 0) (.slice none 0 0) := X4.far (by simp only; omega) _
  have hR5 : RBox (w4.setCell ⟨Q2, 1, none⟩ (.int .i64 2)) b l (p + 2) := hR4.far (by simp only; omega) _
  have hgw5 : w.grownBy (w4.setCell ⟨Q2, 1, none⟩ (.int .i64 2)) (some b) := grown_far hgw4 (by simp only; omega) _
  clear Y4 X4 hR4 hgw4 y0 y1 y2 y3 y4 y5 y6 y7 y8 y9 yf c0 c1 fr
  generalize w4.setCell ⟨Q2, 1, none⟩ (.int .i64 2) = w5 at Y5 X5 hR5 hgw5 ⊢
  clear hq4 lt2
  clear w4
  refine (HN.out _ hR5).mono ?_
  rintro e w6 ⟨rfl, hg6, hR6⟩
  have Y6 := Y5.grown hg6 (by omega)
  have X6 := X5.grown hg6 (by omega)
  have hgw6 := grown_trans hgw5 hg6
  clear Y5 X5 hgw5 hg6 hR5
  clear w5
  obtain ⟨y0, y1, y2, y3, y4, y5, y6, y7, y8, y9⟩ := Y6.c.box
  have yf := Y6.fr
  go_wp2_with fail
  have Y7 : XBox (w6.setCell ⟨Q2, 2, none⟩ (.int .i64 D)) Q2 ⟨K, 2, D, [], zeroTy, []⟩ (.slice none 0 0) (.slice none 0 0) := Y6.set_vn D
  have X7 : XBox (w6.setCell ⟨Q2, 2, none⟩ (.int .i64 D)) w.heap.size ⟨0, 0, 0, [], zeroTy, []⟩ (.slice none 0 0) (.slice none 0 0) := X6.far (by simp only; omega) _
  have hR7 : RBox (w6.setCell ⟨Q2, 2, none⟩ (.int .i64 D)) b l (p + 3) := hR6.far (by simp only; omega) _
  have hgw7 : w.grownBy (w6.setCell ⟨Q2, 2, none⟩ (.int .i64 D)) (some b) := grown_far hgw6 (by simp only; omega) _
  clear Y6 X6 hR6 hgw6 y0 y1 y2 y3 y4 y5 y6 y7 y8 y9 yf
  generalize w6.setCell ⟨Q2, 2, none⟩ (.int .i64 D) = w7 at Y7 X7 hR7 hgw7 ⊢
  have hS7 := hS.k _ _ hw0 hgw7
  refine (wcheck_any ⟨K, 2, D, [], zeroTy, []⟩ _ w7 ⟨_, _, rfl, no_strs' _ _, no_tys _ _⟩ HF.out (hS.t _ hS7)).mono ?_
  rw [HE.out]
  clear HE HF hS7
  rintro e w8 ⟨rfl, hb8⟩
  have Y8 := Y7.keep hb8
  have X8 := X7.keep hb8
  have hR8 := hR7.keep hb8
  have hgw8 := grown_belowB hgw7 hb8
  clear Y7 X7 hR7 hgw7 hb8
  clear w7
  obtain ⟨y0, y1, y2, y3, y4, y5, y6, y7, y8, y9⟩ := Y8.c.box
  go_wp2_with fail
  exact ⟨rfl, hgw8, rfl⟩)
set_option maxHeartbeats 4000000 in
theorem wrev_t1 (l : Str) (b p : Nat) (c : UInt8) (w : World) (hl : l.length ≤ 1048576) (hc : l[p]? = some c) (hk : c.toNat = 2 ∨ c.toNat = 3) (hR : RBox w b l p) (S : World → Prop) (hS : Kept b S) (hw0 : S w) (v : UInt8) (hv : l[p + 1]? = some v) (hx : v.toNat = 3) (T : Str) (q : Nat) (hq : rtext l (p + 2) = .ok (T, q)) (hE : vchk 3 0 T = 0) :
  Calls Tryz.prog 34 #[.pointer (some ⟨b, 0, none⟩)] w fun e w' => EvAns w b l (.ok (⟨c.toNat, 3, 0, T, zeroTy, []⟩, q)) e w' := by
 have hp1 : p + 1 ≤ l.length := at_lt hc
 have hone := fun (W : World) (hR : RBox W b l p) => wone_ok l b p c W hl hR hc
 have HONE := Lib.hid hone
 obtain ⟨c0, c1, fr, lt⟩ := id hR
 have hc256 : c.toNat < 256 := c.toNat_lt
 have hw : wrap64 (c.toNat : Int) = (c.toNat : Int) := by unfold wrap64; omega
 have HK := Lib.hid hk
 have h23 : ((c.toNat : Int) == 2) = true ∨ (((c.toNat : Int) == 2) = false ∧ ((c.toNat : Int) == 3) = true) := by
  rcases hk with h | h
  ·exact .inl (by rw [beq_iff_eq]; omega)
  ·exact .inr ⟨by rw [beq_eq_false_iff_ne]; omega, by rw [beq_iff_eq]; omega⟩
 have hp2 : p + 2 ≤ l.length := at_lt hv
 have hone2 := fun (W : World) (hR : RBox W b l (p + 1)) => wone_ok l b (p + 1) v W hl hR hv
 have hv256 : v.toNat < 256 := v.toNat_lt
 have hwv : wrap64 (v.toNat : Int) = (v.toNat : Int) := by unfold wrap64; omega
 have v1 : ((v.toNat : Int) == 1) = false := by rw [beq_eq_false_iff_ne]; omega
 have v2 : ((v.toNat : Int) == 2) = false := by rw [beq_eq_false_iff_ne]; omega
 have v3 : ((v.toNat : Int) == 3) = true := by rw [beq_iff_eq]; omega
 obtain ⟨V, hV⟩ : ∃ V, v.toNat = V := ⟨_, rfl⟩
 rw [hV] at hone2 hv256 hwv v1 v2 v3 hx
 have HONE2 := Lib.hid hone2
 clear hone2 hV hv v
 have hlen : T.length ≤ l.length := rtext_len hq
 have hnum := fun (W : World) (hR : RBox W b l (p + 2)) => wrtext_any l b (p + 2) W hl hp2 hR
 rw [hq] at hnum
 have HN := Lib.hid hnum
 clear hnum hq
 have HF : Hid (EvFit ⟨c.toNat, 3, 0, T, zeroTy, []⟩) := Lib.hid ⟨by simp only; omega, by simp only; omega, by simp only; omega, by simp only; omega, by simp only; omega, fit_no, by simp⟩
 have HE : Hid (wchk (tyErr (⟨c.toNat, 3, 0, T, zeroTy, []⟩ : Ev).ty) (isName (⟨c.toNat, 3, 0, T, zeroTy, []⟩ : Ev).label) ⟨c.toNat, 3, 0, T, zeroTy, []⟩ = 0) := Lib.hid (by
  show (if (c.toNat : Int) = 2 ∨ (c.toNat : Int) = 3 then vchk 3 0 T else _) = _
  rw [if_pos (by omega)]
  exact hE)
 clear hone hc hk
 obtain ⟨K, hK⟩ : ∃ K, c.toNat = K := ⟨_, rfl⟩
 rw [hK] at h23 hc256 hw HONE HK HF HE
 try rw [hK]
 clear hK c
 rcases h23 with h2 | ⟨h2, h3⟩
 all_goals (
  go_enter Tryz.func34, Tryz.ntmps34
  go_wp2_with fail
  have B1 : Below w.heap.size w (w.alloc (.cells (evCells ⟨0, 0, 0, [], zeroTy, []⟩ (.slice none 0 0) (.slice none 0 0)) 32)) := by go_grown
  have X1 : XBox (w.alloc (.cells (evCells ⟨0, 0, 0, [], zeroTy, []⟩ (.slice none 0 0) (.slice none 0 0)) 32)) w.heap.size ⟨0, 0, 0, [], zeroTy, []⟩ (.slice none 0 0) (.slice none 0 0) := XBox.new _ _ _ _
  have hR1 := hR.keep B1
  have hg1 := grown_belowB (grown_refl w b) B1
  have hbw : b < w.heap.size := hR.lt
  refine (HONE.out _ hR1).mono ?_
  rintro e w2 ⟨rfl, hg2, hR2⟩
  have hgw := grown_trans hg1 hg2
  have X2 := X1.grown hg2 (by omega)
  have hq1 : w.heap.size < w2.heap.size := X2.c.lt
  clear hR c0 c1 fr lt hR1 hg1 hg2 B1 X1
  obtain ⟨c0, c1, fr, lt⟩ := id hR2
  go_wp2_with fail
  have B3 : Below w2.heap.size w2 (w2.alloc (.cells (evCells ⟨K, 0, 0, [], zeroTy, []⟩ (.slice none 0 0) (.slice none 0 0)) 32)) := by go_grown
  have Y3 : XBox (w2.alloc (.cells (evCells ⟨K, 0, 0, [], zeroTy, []⟩ (.slice none 0 0) (.slice none 0 0)) 32)) w2.heap.size ⟨K, 0, 0, [], zeroTy, []⟩ (.slice none 0 0) (.slice none 0 0) := XBox.new _ _ _ _
  refine (HONE2.out _ (hR2.keep B3)).mono ?_
  have hgw3 := grown_belowB hgw B3
  have X3 := X2.keep B3
  clear hgw X2 hR2 B3 c0 c1 fr
  rintro e w4 ⟨rfl, hg4, hR4⟩
  have Y4 := Y3.grown hg4 (by omega)
  have X4 := X3.grown hg4 (by omega)
  have hgw4 := grown_trans hgw3 hg4
  have hq4 : w2.heap.size < w4.heap.size := Y4.c.lt
  clear Y3 X3 hgw3 hg4
  obtain ⟨Q2, hQ2⟩ : ∃ Q, w2.heap.size = Q := ⟨_, rfl⟩
  rw [hQ2] at Y4 hq1 lt hq4 ⊢
  clear hQ2 w2
  obtain ⟨y0, y1, y2, y3, y4, y5, y6, y7, y8, y9⟩ := Y4.c.box
  have yf := Y4.fr
  obtain ⟨c0, c1, fr, lt2⟩ := id hR4
  have nqb : ¬ Q2 = b := by omega
  have nbq : ¬ b = Q2 := by omega
  go_wp2_with fail
  have Y5 : XBox (w4.setCell ⟨Q2, 1, none⟩ (.int .i64 3)) Q2 ⟨K, 3, 0, [], zeroTy, []⟩ (.slice none 0 0) (.slice none 0 0) := Y4.set_vs 3
  have X5 : XBox (w4.setCell ⟨Q2, 1, none⟩ (.int .i64 3)) w.heap.size ⟨0, 0, 0, [], zeroTy, []⟩ (.slice none 0 0) (.slice none 0 0) := X4.far (by simp only; omega) _
  have hR5 : RBox (w4.setCell ⟨Q2, 1, none⟩ (.int .i64 3)) b l (p + 2) := hR4.far (by simp only; omega) _
  have hgw5 : w.grownBy (w4.setCell ⟨Q2, 1, none⟩ (.int .i64 3)) (some b) := grown_far hgw4 (by simp only; omega) _
  clear Y4 X4 hR4 hgw4 y0 y1 y2 y3 y4 y5 y6 y7 y8 y9 yf c0 c1 fr
  generalize w4.setCell ⟨Q2, 1, none⟩ (.int .i64 3) = w5 at Y5 X5 hR5 hgw5 ⊢
  clear hq4 lt2
  clear w4
  refine (HN.out _ hR5).mono ?_
  rintro e w6 ⟨hg6, he, hR6⟩
  simp only at he hR6
  subst he
  have Y6 := Y5.grown hg6 (by omega)
  have X6 := X5.grown hg6 (by omega)
  have hgw6 := grown_trans hgw5 hg6
  clear Y5 X5 hgw5 hg6 hR5
  clear w5
  obtain ⟨y0, y1, y2, y3, y4, y5, y6, y7, y8, y9⟩ := Y6.c.box
  have yf := Y6.fr
  go_wp2_with fail
  have Y7 : XBox (w6.setCell ⟨Q2, 3, none⟩ (.string ⟨T.toArray⟩)) Q2 ⟨K, 3, 0, T, zeroTy, []⟩ (.slice none 0 0) (.slice none 0 0) := Y6.set_vt T
  have X7 : XBox (w6.setCell ⟨Q2, 3, none⟩ (.string ⟨T.toArray⟩)) w.heap.size ⟨0, 0, 0, [], zeroTy, []⟩ (.slice none 0 0) (.slice none 0 0) := X6.far (by simp only; omega) _
  have hR7 : RBox (w6.setCell ⟨Q2, 3, none⟩ (.string ⟨T.toArray⟩)) b l q := hR6.far (by simp only; omega) _
  have hgw7 : w.grownBy (w6.setCell ⟨Q2, 3, none⟩ (.string ⟨T.toArray⟩)) (some b) := grown_far hgw6 (by simp only; omega) _
  clear Y6 X6 hR6 hgw6 y0 y1 y2 y3 y4 y5 y6 y7 y8 y9 yf
  generalize w6.setCell ⟨Q2, 3, none⟩ (.string ⟨T.toArray⟩) = w7 at Y7 X7 hR7 hgw7 ⊢
  have hS7 := hS.k _ _ hw0 hgw7
  refine (wcheck_any ⟨K, 3, 0, T, zeroTy, []⟩ _ w7 ⟨_, _, rfl, no_strs' _ _, no_tys _ _⟩ HF.out (hS.t _ hS7)).mono ?_
  rw [HE.out]
  clear HE HF hS7
  rintro e w8 ⟨rfl, hb8⟩
  have Y8 := Y7.keep hb8
  have X8 := X7.keep hb8
  have hR8 := hR7.keep hb8
  have hgw8 := grown_belowB hgw7 hb8
  clear Y7 X7 hR7 hgw7 hb8
  clear w7
  obtain ⟨y0, y1, y2, y3, y4, y5, y6, y7, y8, y9⟩ := Y8.c.box
  obtain ⟨x0, x1, x2, x3, x4, x5, x6, x7, x8, x9⟩ := X8.c.box
  have xf := X8.fr
  go_wp2_with fail
  obtain ⟨F1, F2, F3, F4⟩ := fin_box X8 hR8 hgw8 (by omega) (Nat.le_refl _) ⟨K, 3, 0, T, zeroTy, []⟩ (.slice none 0 0) (.slice none 0 0)
  simp only at F1 F2 F3 F4
  generalize ((((((((((w8.setCell ⟨w.heap.size, 0, none⟩ (.int .i64 (K : Int))).setCell ⟨w.heap.size, 1, none⟩ (.int .i64 3)).setCell ⟨w.heap.size, 2, none⟩ (.int .i64 0)).setCell ⟨w.heap.size, 3, none⟩ (.string ⟨T.toArray⟩)).setCell ⟨w.heap.size, 4, none⟩ (.int .i64 zeroTy.kind)).setCell ⟨w.heap.size, 5, none⟩ (.int .i64 zeroTy.sort)).setCell ⟨w.heap.size, 6, none⟩ (.string ⟨zeroTy.name.toArray⟩)).setCell ⟨w.heap.size, 7, none⟩ (.slice none 0 0)).setCell ⟨w.heap.size, 8, none⟩ (.slice none 0 0)).setCell ⟨w.heap.size, 9, none⟩ (.string ⟨#[]⟩)) = w9 at F1 F2 F3 F4 ⊢
  obtain ⟨z0, z1, z2, z3, z4, z5, z6, z7, z8, z9⟩ := F1.c.box
  refine bodyPost_ret (v := evAgg ⟨K, 3, 0, T, zeroTy, []⟩ (.slice none 0 0) (.slice none 0 0)) (by simp [results, Tryz.results34, go_sem, z0, z1, z2, z3, z4, z5, z6, z7, z8, z9]) rfl ?_
  exact ⟨F3, _, rfl, ⟨_, _, rfl, no_strs' _ _, no_tys _ _⟩, F2⟩)
set_option maxHeartbeats 4000000 in
theorem wrev_t2 (l : Str) (b p : Nat) (c : UInt8) (w : World) (hl : l.length ≤ 1048576) (hc : l[p]? = some c) (hk : c.toNat = 2 ∨ c.toNat = 3) (hR : RBox w b l p) (S : World → Prop) (hS : Kept b S) (hw0 : S w) (v : UInt8) (hv : l[p + 1]? = some v) (hx : v.toNat = 3) (T : Str) (q : Nat) (hq : rtext l (p + 2) = .ok (T, q)) (hE : vchk 3 0 T ≠ 0) :
  Calls Tryz.prog 34 #[.pointer (some ⟨b, 0, none⟩)] w fun e w' => EvAns w b l (.error (p + 2)) e w' := by
 have hp1 : p + 1 ≤ l.length := at_lt hc
 have hone := fun (W : World) (hR : RBox W b l p) => wone_ok l b p c W hl hR hc
 have HONE := Lib.hid hone
 obtain ⟨c0, c1, fr, lt⟩ := id hR
 have hc256 : c.toNat < 256 := c.toNat_lt
 have hw : wrap64 (c.toNat : Int) = (c.toNat : Int) := by unfold wrap64; omega
 have HK := Lib.hid hk
 have h23 : ((c.toNat : Int) == 2) = true ∨ (((c.toNat : Int) == 2) = false ∧ ((c.toNat : Int) == 3) = true) := by
  rcases hk with h | h
  ·exact .inl (by rw [beq_iff_eq]; omega)
  ·exact .inr ⟨by rw [beq_eq_false_iff_ne]; omega, by rw [beq_iff_eq]; omega⟩
 have hp2 : p + 2 ≤ l.length := at_lt hv
 have hone2 := fun (W : World) (hR : RBox W b l (p + 1)) => wone_ok l b (p + 1) v W hl hR hv
 have hv256 : v.toNat < 256 := v.toNat_lt
 have hwv : wrap64 (v.toNat : Int) = (v.toNat : Int) := by unfold wrap64; omega
 have v1 : ((v.toNat : Int) == 1) = false := by rw [beq_eq_false_iff_ne]; omega
 have v2 : ((v.toNat : Int) == 2) = false := by rw [beq_eq_false_iff_ne]; omega
 have v3 : ((v.toNat : Int) == 3) = true := by rw [beq_iff_eq]; omega
 obtain ⟨V, hV⟩ : ∃ V, v.toNat = V := ⟨_, rfl⟩
 rw [hV] at hone2 hv256 hwv v1 v2 v3 hx
 have HONE2 := Lib.hid hone2
 clear hone2 hV hv v
 have hlen : T.length ≤ l.length := rtext_len hq
 have hnum := fun (W : World) (hR : RBox W b l (p + 2)) => wrtext_any l b (p + 2) W hl hp2 hR
 rw [hq] at hnum
 have HN := Lib.hid hnum
 clear hnum hq
 obtain ⟨E, hE'⟩ : ∃ E, vchk 3 0 T = E := ⟨_, rfl⟩
 have hcb : (E != 0) = true := by rw [bne_iff_ne, ← hE']; exact hE
 clear hE
 have hE := hE'
 have HF : Hid (EvFit ⟨c.toNat, 3, 0, T, zeroTy, []⟩) := Lib.hid ⟨by simp only; omega, by simp only; omega, by simp only; omega, by simp only; omega, by simp only; omega, fit_no, by simp⟩
 have HE : Hid (wchk (tyErr (⟨c.toNat, 3, 0, T, zeroTy, []⟩ : Ev).ty) (isName (⟨c.toNat, 3, 0, T, zeroTy, []⟩ : Ev).label) ⟨c.toNat, 3, 0, T, zeroTy, []⟩ = E) := Lib.hid (by
  show (if (c.toNat : Int) = 2 ∨ (c.toNat : Int) = 3 then vchk 3 0 T else _) = _
  rw [if_pos (by omega)]
  exact hE)
 clear hone hc hk
 obtain ⟨K, hK⟩ : ∃ K, c.toNat = K := ⟨_, rfl⟩
 rw [hK] at h23 hc256 hw HONE HK HF HE
 try rw [hK]
 clear hK c
 rcases h23 with h2 | ⟨h2, h3⟩
 all_goals (
  go_enter Tryz.func34, Tryz.ntmps34
  go_wp2_with fail
  have B1 : Below w.heap.size w (w.alloc (.cells (evCells ⟨0, 0, 0, [], zeroTy, []⟩ (.slice none 0 0) (.slice none 0 0)) 32)) := by go_grown
  have X1 : XBox (w.alloc (.cells (evCells ⟨0, 0, 0, [], zeroTy, []⟩ (.slice none 0 0) (.slice none 0 0)) 32)) w.heap.size ⟨0, 0, 0, [], zeroTy, []⟩ (.slice none 0 0) (.slice none 0 0) := XBox.new _ _ _ _
  have hR1 := hR.keep B1
  have hg1 := grown_belowB (grown_refl w b) B1
  have hbw : b < w.heap.size := hR.lt
  refine (HONE.out _ hR1).mono ?_
  rintro e w2 ⟨rfl, hg2, hR2⟩
  have hgw := grown_trans hg1 hg2
  have X2 := X1.grown hg2 (by omega)
  have hq1 : w.heap.size < w2.heap.size := X2.c.lt
  clear hR c0 c1 fr lt hR1 hg1 hg2 B1 X1
  obtain ⟨c0, c1, fr, lt⟩ := id hR2
  go_wp2_with fail
  have B3 : Below w2.heap.size w2 (w2.alloc (.cells (evCells ⟨K, 0, 0, [], zeroTy, []⟩ (.slice none 0 0) (.slice none 0 0)) 32)) := by go_grown
  have Y3 : XBox (w2.alloc (.cells (evCells ⟨K, 0, 0, [], zeroTy, []⟩ (.slice none 0 0) (.slice none 0 0)) 32)) w2.heap.size ⟨K, 0, 0, [], zeroTy, []⟩ (.slice none 0 0) (.slice none 0 0) := XBox.new _ _ _ _
  refine (HONE2.out _ (hR2.keep B3)).mono ?_
  have hgw3 := grown_belowB hgw B3
  have X3 := X2.keep B3
  clear hgw X2 hR2 B3 c0 c1 fr
  rintro e w4 ⟨rfl, hg4, hR4⟩
  have Y4 := Y3.grown hg4 (by omega)
  have X4 := X3.grown hg4 (by omega)
  have hgw4 := grown_trans hgw3 hg4
  have hq4 : w2.heap.size < w4.heap.size := Y4.c.lt
  clear Y3 X3 hgw3 hg4
  obtain ⟨Q2, hQ2⟩ : ∃ Q, w2.heap.size = Q := ⟨_, rfl⟩
  rw [hQ2] at Y4 hq1 lt hq4 ⊢
  clear hQ2 w2
  obtain ⟨y0, y1, y2, y3, y4, y5, y6, y7, y8, y9⟩ := Y4.c.box
  have yf := Y4.fr
  obtain ⟨c0, c1, fr, lt2⟩ := id hR4
  have nqb : ¬ Q2 = b := by omega
  have nbq : ¬ b = Q2 := by omega
  go_wp2_with fail
  have Y5 : XBox (w4.setCell ⟨Q2, 1, none⟩ (.int .i64 3)) Q2 ⟨K, 3, 0, [], zeroTy, []⟩ (.slice none 0 0) (.slice none 0 0) := Y4.set_vs 3
  have X5 : XBox (w4.setCell ⟨Q2, 1, none⟩ (.int .i64 3)) w.heap.size ⟨0, 0, 0, [], zeroTy, []⟩ (.slice none 0 0) (.slice none 0 0) := X4.far (by simp only; omega) _
  have hR5 : RBox (w4.setCell ⟨Q2, 1, none⟩ (.int .i64 3)) b l (p + 2) := hR4.far (by simp only; omega) _
  have hgw5 : w.grownBy (w4.setCell ⟨Q2, 1, none⟩ (.int .i64 3)) (some b) := grown_far hgw4 (by simp only; omega) _
  clear Y4 X4 hR4 hgw4 y0 y1 y2 y3 y4 y5 y6 y7 y8 y9 yf c0 c1 fr
  generalize w4.setCell ⟨Q2, 1, none⟩ (.int .i64 3) = w5 at Y5 X5 hR5 hgw5 ⊢
  clear hq4 lt2
  clear w4
  refine (HN.out _ hR5).mono ?_
  rintro e w6 ⟨hg6, he, hR6⟩
  simp only at he hR6
  subst he
  have Y6 := Y5.grown hg6 (by omega)
  have X6 := X5.grown hg6 (by omega)
  have hgw6 := grown_trans hgw5 hg6
  clear Y5 X5 hgw5 hg6 hR5
  clear w5
  obtain ⟨y0, y1, y2, y3, y4, y5, y6, y7, y8, y9⟩ := Y6.c.box
  have yf := Y6.fr
  go_wp2_with fail
  have Y7 : XBox (w6.setCell ⟨Q2, 3, none⟩ (.string ⟨T.toArray⟩)) Q2 ⟨K, 3, 0, T, zeroTy, []⟩ (.slice none 0 0) (.slice none 0 0) := Y6.set_vt T
  have X7 : XBox (w6.setCell ⟨Q2, 3, none⟩ (.string ⟨T.toArray⟩)) w.heap.size ⟨0, 0, 0, [], zeroTy, []⟩ (.slice none 0 0) (.slice none 0 0) := X6.far (by simp only; omega) _
  have hR7 : RBox (w6.setCell ⟨Q2, 3, none⟩ (.string ⟨T.toArray⟩)) b l q := hR6.far (by simp only; omega) _
  have hgw7 : w.grownBy (w6.setCell ⟨Q2, 3, none⟩ (.string ⟨T.toArray⟩)) (some b) := grown_far hgw6 (by simp only; omega) _
  clear Y6 X6 hR6 hgw6 y0 y1 y2 y3 y4 y5 y6 y7 y8 y9 yf
  generalize w6.setCell ⟨Q2, 3, none⟩ (.string ⟨T.toArray⟩) = w7 at Y7 X7 hR7 hgw7 ⊢
  have hS7 := hS.k _ _ hw0 hgw7
  refine (wcheck_any ⟨K, 3, 0, T, zeroTy, []⟩ _ w7 ⟨_, _, rfl, no_strs' _ _, no_tys _ _⟩ HF.out (hS.t _ hS7)).mono ?_
  rw [HE.out]
  clear HE HF hS7
  rintro e w8 ⟨rfl, hb8⟩
  have Y8 := Y7.keep hb8
  have X8 := X7.keep hb8
  have hR8 := hR7.keep hb8
  have hgw8 := grown_belowB hgw7 hb8
  clear Y7 X7 hR7 hgw7 hb8
  clear w7
  obtain ⟨y0, y1, y2, y3, y4, y5, y6, y7, y8, y9⟩ := Y8.c.box
  go_wp2_with fail
  exact ⟨rfl, hgw8, rfl⟩)
set_option maxRecDepth 100000
theorem wrevent_any (l : Str) (b p : Nat) (w : World) (hl : l.length ≤ 1048576) (hp : p < l.length) (hR : RBox w b l p) (S : World → Prop) (hS : Kept b S) (hw0 : S w) :
  Calls Tryz.prog 34 #[.pointer (some ⟨b, 0, none⟩)] w fun e w' => EvAns w b l (rdEv l p) e w' := by
 have hc : l[p]? = some l[p] := List.getElem?_eq_getElem hp
 generalize l[p] = c at hc
 unfold rdEv
 rw [hc]
 simp only
 by_cases h1 : c.toNat = 2 ∨ c.toNat = 3
 ·rw [if_pos h1]
  unfold rdVal
  cases hv : l[p + 1]? with
  | none =>
   have hn : p + 1 = l.length := by have := List.getElem?_eq_none_iff.1 hv; omega
   exact wrev_v0 l b p c w hl hc h1 hR S hS hw0 hn
  | some v =>
   simp only
   by_cases h2 : v.toNat = 1
   ·rw [if_pos h2]
    cases hq : wnum l (p + 1 + 1) with
    | error q => exact wrev_n0 l b p c w hl hc h1 hR S hS hw0 v hv h2 q hq
    | ok x => exact wrev_n1 l b p c w hl hc h1 hR S hS hw0 v hv h2 x.1 x.2 hq
   ·rw [if_neg h2]
    by_cases h3 : v.toNat = 2
    ·rw [if_pos h3]
     cases hd : l[p + 1 + 1]? with
     | none =>
      have hn : p + 2 = l.length := by have := List.getElem?_eq_none_iff.1 hd; have := at_lt hv; omega
      exact wrev_b0 l b p c w hl hc h1 hR S hS hw0 v hv h3 hn
     | some d =>
      simp only
      by_cases h4 : 1 < d.toNat
      ·rw [if_pos h4]
       exact wrev_b2 l b p c w hl hc h1 hR S hS hw0 v hv h3 d hd h4
      ·rw [if_neg h4]
       exact wrev_b1 l b p c w hl hc h1 hR S hS hw0 v hv h3 d hd (by omega)
    ·rw [if_neg h3]
     by_cases h4 : v.toNat = 3
     ·rw [if_pos h4]
      cases hq : rtext l (p + 1 + 1) with
      | error q => exact wrev_t0 l b p c w hl hc h1 hR S hS hw0 v hv h4 q hq
      | ok x =>
       simp only
       by_cases h5 : vchk 3 0 x.1 = 0
       ·rw [if_pos h5]
        exact wrev_t1 l b p c w hl hc h1 hR S hS hw0 v hv h4 x.1 x.2 hq h5
       ·rw [if_neg h5]
        exact wrev_t2 l b p c w hl hc h1 hR S hS hw0 v hv h4 x.1 x.2 hq h5
     ·rw [if_neg h4]
      exact wrev_vx l b p c w hl hc h1 hR S hS hw0 v hv (by omega)
 ·rw [if_neg h1]
  by_cases h2 : c.toNat = 4 ∨ c.toNat = 5
  ·rw [if_pos h2]
   exact wrev_ty l b p c w hl hc h2 hR S hS hw0
  ·rw [if_neg h2]
   by_cases h3 : c.toNat = 6 ∨ c.toNat = 7
   ·rw [if_pos h3]
    exact wrev_lab l b p c w hl hc h3 hR S hS hw0
   ·rw [if_neg h3]
    exact wrev_none l b p c w hl hc (by omega) hR
end Go.Proofs.YtpidjanngbaiiaaGreatDoor
