/-
  Words of big numbers: how many bits, one bit; Uint64, Int64, IsInt64.
  Expressions (api.Expr) as trees, and how they lie in memory, with the blocks in which they lie (D).
  Types (api.Type) as trees, and how they lie in memory.
  Names: exprs.IsName, types.IsVar and the reference's small, IsName, IsVar answer 'isName' and 'isVar'.
  What is wrong with a value, in plain words.
-/
import Derived.Test.YtmklodgcbldndaaDoorM3
import Derived.Test.YtmklodgcbldndaaDoorM2
import Derived.Shelf.Strings.SlTrimAscii
import Derived.Lib.SlicesS
namespace Go.Proofs.YtmklodgcbldndaaDoor
open Go.RowKit Go.Proofs

set_option maxRecDepth 100000
theorem run_shr_u32 (x k : Nat) (w : World) (hx : x < 4294967296) (hk : k < 32) : (binOp .shr 112 (.int .u32 (x : Nat)) (.int .u64 (k : Nat))).run Tryd.prog w = .ok (.int .u32 ((x / 2 ^ k : Nat) : Int)) w := by
  go_simp
theorem bits_and1 (a : Nat) (ha : a < 18446744073709551616) : bits .and .u64 (a : Int) 1 = ((a % 2 : Nat) : Int) := by
  have e : ∀ n : Nat, n < 18446744073709551616 → (BitVec.ofInt 64 (n : Int)).toNat = n := fun n hn => by
    rw [BitVec.ofInt_natCast, BitVec.toNat_ofNat]
    exact Nat.mod_eq_of_lt hn
  show IntKind.u64.wrap (((BitVec.ofInt 64 (a : Int)) &&& (BitVec.ofInt 64 ((1 : Nat) : Int))).toNat : Int) = _
  rw [BitVec.toNat_and, e a ha, e 1 (by decide), Nat.and_one_is_mod, Go.IntWalk.u64_in _ (by omega)]
set_option maxHeartbeats 1000000 in
theorem blength_any (D : Blocks) (v : Value) (l : List Nat) (w : World) (hv : Wds D w v l) (hl : l.length ≤ 900000) (hW : Ws l) :
    Calls Tryd.prog 83 #[v] w fun e w' => e = .returned (.int .i64 (bitsW l : Nat)) ∧ w' = w := by
  obtain ⟨A, c, rfl, hv⟩ := wds_form hv
  have HV := Lib.hid hv
  clear hv
  obtain ⟨L, hL⟩ : ∃ L, l.length = L := ⟨_, rfl⟩
  have HL := Lib.hid hL
  rw [hL] at HV hl ⊢
  obtain ⟨R, hR⟩ : ∃ R, bitsW l = R := ⟨_, rfl⟩
  have HR := Lib.hid hR
  rw [hR]
  clear hR hL
  by_cases h0 : L = 0
  · subst h0
    have hr : R = 0 := by
      rw [← HR.out]
      have : l = [] := List.eq_nil_of_length_eq_zero HL.out
      rw [this]; rfl
    subst hr
    go_enter Tryd.func83, Tryd.ntmps83
    go_wp2_with fail
    go_ret
    exact ⟨rfl, rfl⟩
  · obtain ⟨j, rfl⟩ : ∃ j, L = j + 1 := ⟨L - 1, by omega⟩
    obtain ⟨x, hx⟩ : ∃ x, l[j]? = some x := ⟨_, List.getElem?_eq_getElem (by have := HL.out; omega)⟩
    obtain ⟨b, off, rfl, -, hc⟩ := wds_at HV.out hx
    have hxl : x < 4294967296 := hW x (mem_of_at hx)
    have HB : Hid (R = j * 32 + bits1 x) := Lib.hid (by
      rw [← HR.out]
      have e : l.getLast? = some x := by rw [List.getLast?_eq_getElem?, HL.out]; exact hx
      simp only [bitsW, e, HL.out]
      omega)
    clear hx HR
    go_enter Tryd.func83, Tryd.ntmps83
    go_wp2_with fail
    go_loop [3, 4] (fun nv tv => ∃ k y : Nat, nv = .int .i64 k ∧ tv = .int .u32 y ∧ y < 4294967296 ∧ k ≤ 32 ∧ Hid (k + bits1 y = bits1 x ∧ bits1 x ≤ 32)) (fun _ tv => (intOf tv).toNat)
    case atStart => exact ⟨0, x, rfl, rfl, hxl, by decide, by omega, (bits1_lt 32 x).1 (by omega)⟩
    case round =>
      obtain ⟨k, y, rfl, rfl, hy, hk, hs⟩ := hrel
      by_cases hy0 : y = 0
      · subst hy0
        have hk2 : k = bits1 x := by have := hs.out.1; rw [bits1] at this; simpa using this
        have HRR : Hid (R = j * 32 + k) := Lib.hid (by rw [HB.out, hk2])
        clear hs hk2
        go_wp2_with fail
        go_ret
        refine ⟨?_, rfl⟩
        rw [HRR.out]
        simp
      · have hyz : ((y : Int) == 0) = false := by rw [beq_eq_false_iff_ne]; omega
        have hyz2 : ((y : Int) != 0) = true := by rw [bne_iff_ne]; omega
        have hs2 : k + 1 + bits1 (y / 2) = bits1 x := by
          have := hs.out.1
          rw [bits1, dif_neg hy0] at this
          omega
        have HS := Lib.hid (And.intro hs2 hs.out.2)
        have hk31 : k + 1 ≤ 32 := by have := hs.out; omega
        have hy1 : 0 < y := by omega
        clear hs hs2 hy0
        go_wp2_with fail
        refine ⟨⟨k + 1, y / 2, by go_num, by rw [Int.natCast_ediv]; rfl, by omega, hk31, HS⟩, ?_⟩
        simp [intOf] <;> omega
theorem words_getD (N : Nat) : ∀ j, (wordsOf N).getD j 0 = N / 4294967296 ^ j % 4294967296 := by
  induction N using Nat.strongRecOn with
  | _ N ih =>
    intro j
    by_cases h0 : N = 0
    · subst h0
      rw [wordsOf_nil.2 rfl]
      simp
    · rw [wordsOf, dif_neg h0]
      cases j with
      | zero => simp
      | succ j =>
        rw [List.getD_cons_succ, ih (N / 4294967296) (by omega), Nat.div_div_eq_div_mul, Nat.pow_succ, Nat.mul_comm]
theorem words_bit (N k : Nat) : (wordsOf N).getD (k / 32) 0 / 2 ^ (k % 32) % 2 = N / 2 ^ k % 2 := by
  rw [words_getD]
  have h1 : ∀ x i : Nat, x / 2 ^ i % 2 = (x.testBit i).toNat := fun x i => by
    rw [Nat.testBit_eq_decide_div_mod_eq]
    have := Nat.mod_two_eq_zero_or_one (x / 2 ^ i)
    rcases this with h | h <;> simp [h]
  rw [h1, h1]
  have e : (4294967296 : Nat) ^ (k / 32) = 2 ^ (32 * (k / 32)) := by rw [Nat.pow_mul]
  have e2 : (4294967296 : Nat) = 2 ^ 32 := by decide
  rw [e]
  conv => lhs; rw [e2]
  rw [Nat.testBit_mod_two_pow, Nat.testBit_div_two_pow]
  have h3 : k % 32 < 32 := Nat.mod_lt _ (by decide)
  have h4 : 32 * (k / 32) + k % 32 = k := Nat.div_add_mod k 32
  have h5 : k % 32 + 32 * (k / 32) = k := by omega
  simp [h3, h4, h5]
set_option maxHeartbeats 1000000 in
theorem bit_any (D : Blocks) (v : Value) (l : List Nat) (i : Nat) (w : World) (hv : Wds D w v l) (hl : l.length ≤ 900000) (hW : Ws l) (hi : i ≤ 1000) :
    Calls Tryd.prog 107 #[v, .int .i64 i] w fun e w' => e = .returned (.int .u64 (l.getD (i / 32) 0 / 2 ^ (i % 32) % 2 : Nat)) ∧ w' = w := by
  obtain ⟨A, c, rfl, hv⟩ := wds_form hv
  have HV := Lib.hid hv
  clear hv
  obtain ⟨L, hL⟩ : ∃ L, l.length = L := ⟨_, rfl⟩
  have HL := Lib.hid hL
  rw [hL] at HV hl ⊢
  clear hL
  obtain ⟨j, hj⟩ : ∃ j, i / 32 = j := ⟨_, rfl⟩
  obtain ⟨r, hr⟩ : ∃ r, i % 32 = r := ⟨_, rfl⟩
  have hq : (i : Int) / 32 = (j : Int) := by omega
  have hm : (i : Int) % 32 = (r : Int) := by omega
  have hr32 : r < 32 := by omega
  rw [hj, hr]
  have hz : 0 ≤ (i : Int) := by omega
  by_cases hlt : j < L
  · obtain ⟨x, hx⟩ : ∃ x, l[j]? = some x := ⟨_, List.getElem?_eq_getElem (by have := HL.out; omega)⟩
    obtain ⟨b, off, rfl, -, hc⟩ := wds_at HV.out hx
    have hxl : x < 4294967296 := hW x (mem_of_at hx)
    have hxd := getD_at hx
    rw [hxd]
    have hltz : ¬ (L : Int) ≤ (j : Int) := by omega
    have hsh := run_shr_u32 x r w hxl hr32
    obtain ⟨y, hy⟩ : ∃ y, x / 2 ^ r = y := ⟨_, rfl⟩
    have hyl : y < 4294967296 := by rw [← hy]; exact Nat.lt_of_le_of_lt (Nat.div_le_self _ _) hxl
    have hand := bits_and1 y (by omega)
    rw [hy] at hsh ⊢
    have HY := Lib.hid hy
    clear hx hxd hy hj hr
    go_enter Tryd.func107, Tryd.ntmps107
    go_wp2_with fail
    go_ret
    refine ⟨?_, rfl⟩
    have e1 : (x : Int) / 2 ^ r = (y : Int) := by rw [← HY.out, Int.natCast_ediv, Int.natCast_pow]; rfl
    rw [e1, Go.IntWalk.u64_in _ (by omega), hand]
    rfl
  · have hd : l.getD j 0 = 0 := by simp [List.getD, List.getElem?_eq_none (show l.length ≤ j by have := HL.out; omega)]
    have hltz : (L : Int) ≤ (j : Int) := by omega
    rw [hd]
    clear hd hj hr
    go_enter Tryd.func107, Tryd.ntmps107
    go_wp2_with fail
    go_ret
    exact ⟨by simp, rfl⟩
set_option maxHeartbeats 1000000 in
theorem uint64_any (p : Nat) (n0 : Int) (w : World) (h : BigAt w p n0) (hn : n0.natAbs < 18446744073709551616) :
    Calls Tryd.prog 85 #[.pointer (some ⟨p, 0, none⟩)] w fun e w' => e = .returned (.int .u64 (n0.natAbs : Nat)) ∧ w' = w := by
  obtain ⟨c0, v, c1, hv⟩ := h
  obtain ⟨N, hN⟩ : ∃ N, n0.natAbs = N := ⟨_, rfl⟩
  rw [hN] at hv hn ⊢
  clear hN c0
  have hlen : (wordsOf N).length ≤ 2 := wordsOf_len (by omega)
  have hval := wordsOf_val N
  have hws := wordsOf_ws N
  obtain ⟨A, c, rfl, hv⟩ := wds_form hv
  match hl : wordsOf N, hlen with
  | [], _ =>
    rw [hl] at hv hval c1
    simp only [wval] at hval
    subst hval
    clear hv hws hl
    simp only [List.length_nil] at c1
    go_enter Tryd.func85, Tryd.ntmps85
    go_wp2_with fail
    go_ret
    exact ⟨rfl, rfl⟩
  | [x], _ =>
    rw [hl] at hv hval c1 hws
    have hxl : x < 4294967296 := hws x (by simp)
    obtain ⟨b, off, rfl, -, hc⟩ := wds_at hv (i := 0) (x := x) rfl
    simp only [wval, Nat.mul_zero, Nat.add_zero] at hval
    subst hval
    simp only [List.length_cons, List.length_nil, Nat.zero_add] at c1
    rw [Nat.add_zero] at hc
    clear hv hws hl
    go_enter Tryd.func85, Tryd.ntmps85
    go_wp2_with fail
    go_ret
    exact ⟨rfl, rfl⟩
  | [x, y], _ =>
    rw [hl] at hv hval c1 hws
    have hxl : x < 4294967296 := hws x (by simp)
    have hyl : y < 4294967296 := hws y (by simp)
    obtain ⟨b, off, e, -, hc⟩ := wds_at hv (i := 0) (x := x) rfl
    obtain ⟨b', off', e', -, hc'⟩ := wds_at hv (i := 1) (x := y) rfl
    subst e
    injection e' with e'
    injection e' with e1 e2
    subst e1 e2
    simp only [wval, Nat.mul_zero, Nat.add_zero] at hval
    have c1 : w.cell? ⟨p, 1, none⟩ = some (.slice (some ⟨b, off, none⟩) 2 c) := c1
    rw [Nat.add_zero] at hc
    have hor := bits_or x (y * 4294967296) (by omega) (by omega)
    rw [Nat.or_comm, or_add y x hxl, show y * 4294967296 + x = N by omega, Int.natCast_mul] at hor
    have hor : bits BinOp.or IntKind.u64 (x : Int) ((y : Int) * 4294967296) = (N : Int) := hor
    clear hv hws hl hval
    go_enter Tryd.func85, Tryd.ntmps85
    go_wp2_with fail
    go_ret
    exact ⟨rfl, rfl⟩
  | _ :: _ :: _ :: _, h => simp at h
set_option maxHeartbeats 1000000 in
theorem int64_any (p : Nat) (n0 : Int) (w : World) (h : BigAt w p n0) (h1 : -9223372036854775808 ≤ n0) (h2 : n0 ≤ 9223372036854775807) :
    Calls Tryd.prog 60 #[.pointer (some ⟨p, 0, none⟩)] w fun e w' => e = .returned (.int .i64 n0) ∧ w' = w := by
  have hu := Lib.hid (uint64_any p n0 w h (by omega))
  obtain ⟨c0, -⟩ := h
  obtain ⟨N, hN⟩ : ∃ N, n0.natAbs = N := ⟨_, rfl⟩
  rw [hN] at hu
  by_cases hneg : n0 < 0
  · rw [decide_eq_true hneg] at c0
    by_cases hm : N = 9223372036854775808
    · have hn : n0 = -9223372036854775808 := by omega
      subst hm hn
      clear h1 h2 hN hneg
      go_enter Tryd.func60, Tryd.ntmps60
      go_wp2_with fail
      refine hu.out.mono ?_
      rintro e w1 ⟨rfl, rfl⟩
      go_wp2_with fail
      go_ret
      exact ⟨congrArg (fun x => Ending.returned (.int .i64 x)) (show wrap64 (-wrap64 9223372036854775808) = -9223372036854775808 by decide +kernel), rfl⟩
    · have hn : n0 = -(N : Int) := by omega
      subst hn
      have hNl : (N : Int) ≤ 9223372036854775807 := by omega
      have hN0 : (0 : Int) ≤ N := by omega
      clear h1 h2 hN hneg
      go_enter Tryd.func60, Tryd.ntmps60
      go_wp2_with fail
      refine hu.out.mono ?_
      rintro e w1 ⟨rfl, rfl⟩
      go_wp2_with fail
      go_ret
      exact ⟨rfl, rfl⟩
  · rw [decide_eq_false hneg] at c0
    have hn : n0 = (N : Int) := by omega
    subst hn
    have hN0 : (0 : Int) ≤ N := by omega
    clear h1 hN hneg
    go_enter Tryd.func60, Tryd.ntmps60
    go_wp2_with fail
    refine hu.out.mono ?_
    rintro e w1 ⟨rfl, rfl⟩
    go_wp2_with fail
    go_ret
    exact ⟨rfl, rfl⟩
set_option maxHeartbeats 1000000 in
theorem tz_any (p : Nat) (n0 : Int) (w : World) (h : BigAt w p n0) (h1 : 9223372036854775808 ≤ n0.natAbs) (h2 : n0.natAbs < 18446744073709551616) :
    Calls Tryd.prog 84 #[.pointer (some ⟨p, 0, none⟩)] w fun e w' => (∃ t : Nat, e = .returned (.int .u64 t) ∧ t ≤ 63 ∧ n0.natAbs % 2 ^ t = 0 ∧ n0.natAbs / 2 ^ t % 2 = 1) ∧ w' = w := by
  obtain ⟨c0, v, c1, hv⟩ := h
  obtain ⟨N, hN⟩ : ∃ N, n0.natAbs = N := ⟨_, rfl⟩
  rw [hN] at hv h1 h2 ⊢
  clear hN c0
  have hlen : (wordsOf N).length ≤ 2 := wordsOf_len (by omega)
  obtain ⟨A, c, rfl, hv⟩ := wds_form hv
  have HV := Lib.hid hv
  have hbit : ∀ k : Nat, k ≤ 63 → Calls Tryd.prog 107 #[.slice A (wordsOf N).length c, .int .i64 k] w fun e w' => e = .returned (.int .u64 (N / 2 ^ k % 2 : Nat)) ∧ w' = w := fun k hk => by
    have := bit_any All _ (wordsOf N) k w hv (by omega) (wordsOf_ws N) (by omega)
    rw [words_bit] at this
    exact this
  obtain ⟨L, hL⟩ : ∃ L, (wordsOf N).length = L := ⟨_, rfl⟩
  have hL0 : ((L : Int) == 0) = false := by
    rw [beq_eq_false_iff_ne]
    intro e
    have : wordsOf N = [] := List.eq_nil_of_length_eq_zero (by omega)
    have := wordsOf_nil.1 this
    omega
  rw [hL] at c1 hbit
  have HB := Lib.hid hbit
  have H12 := Lib.hid (And.intro h1 h2)
  clear hbit hv hL hlen h1 h2
  go_enter Tryd.func84, Tryd.ntmps84
  go_wp2_with fail
  go_loop [3] (fun kv => ∃ k : Nat, kv = .int .u64 k ∧ k ≤ 63 ∧ Hid (N % 2 ^ k = 0)) (fun kv => 64 - (intOf kv).toNat)
  case atStart => exact ⟨0, rfl, by decide, Nat.mod_one _⟩
  case round =>
    obtain ⟨k, rfl, hk, hm⟩ := hrel
    obtain ⟨r, hr⟩ : ∃ r, N / 2 ^ k % 2 = r := ⟨_, rfl⟩
    have hb := HB.out k hk
    rw [hr] at hb
    have HBK := Lib.hid hb
    have HR := Lib.hid hr
    have hr2 : r = 0 ∨ r = 1 := by omega
    clear hb hr
    rcases hr2 with rfl | rfl
    · have hst : N % 2 ^ (k + 1) = 0 := by
        have hp : 0 < 2 ^ k := Nat.two_pow_pos k
        have e1 := Nat.div_add_mod N (2 ^ k)
        have e2 := Nat.div_add_mod (N / 2 ^ k) 2
        rw [HR.out] at e2
        rw [hm.out] at e1
        apply Nat.mod_eq_zero_of_dvd
        refine ⟨N / 2 ^ k / 2, ?_⟩
        rw [Nat.pow_succ, Nat.mul_assoc]
        rw [Nat.add_zero] at e1 e2
        rw [e2, e1]
      have hk2 : k + 1 ≤ 63 := by
        rcases Nat.lt_or_ge k 63 with h | h
        · exact h
        · obtain rfl : k = 63 := by omega
          have := H12.out
          have e : (2 : Nat) ^ (63 + 1) = 18446744073709551616 := by decide
          rw [e, Nat.mod_eq_of_lt this.2] at hst
          omega
      have HST := Lib.hid hst
      clear hst hm HR
      go_wp2_with fail
      refine HBK.out.mono ?_
      rintro e w1 ⟨rfl, rfl⟩
      go_wp2_with fail
      refine ⟨⟨k + 1, by go_num, hk2, HST⟩, ?_⟩
      simp [intOf] <;> omega
    · go_wp2_with fail
      refine HBK.out.mono ?_
      rintro e w1 ⟨rfl, rfl⟩
      go_wp2_with fail
      go_ret
      exact ⟨⟨k, rfl, hk, hm.out, HR.out⟩, rfl⟩
theorem tz_63 {N t : Nat} (h1 : 9223372036854775808 ≤ N) (h2 : N < 18446744073709551616) (ht : t ≤ 63) (h3 : N % 2 ^ t = 0) (h4 : N / 2 ^ t % 2 = 1) : t = 63 ↔ N = 9223372036854775808 := by
  constructor
  · rintro rfl
    have e : (2 : Nat) ^ 63 = 9223372036854775808 := by decide
    rw [e] at h3
    omega
  · rintro rfl
    rcases Nat.lt_or_ge t 63 with h | h
    · exfalso
      have e : (9223372036854775808 : Nat) = 2 ^ t * (2 * 2 ^ (62 - t)) := by
        rw [← Nat.pow_succ', ← Nat.pow_add, show t + (62 - t + 1) = 63 by omega]
      rw [e, Nat.mul_div_cancel_left _ (Nat.two_pow_pos t)] at h4
      omega
    · omega
set_option maxHeartbeats 1000000 in
theorem isInt64_any (p : Nat) (n0 : Int) (w : World) (h : BigAt w p n0) (hn : n0.natAbs < 100000000000000000000) :
    Calls Tryd.prog 59 #[.pointer (some ⟨p, 0, none⟩)] w fun e w' => e = .returned (.bool (decide (-9223372036854775808 ≤ n0 ∧ n0 ≤ 9223372036854775807))) ∧ w' = w := by
  have htz := tz_any p n0 w h
  obtain ⟨c0, v, c1, hv⟩ := h
  obtain ⟨N, hN⟩ : ∃ N, n0.natAbs = N := ⟨_, rfl⟩
  rw [hN] at hv hn htz
  have hlen : (wordsOf N).length ≤ 3 := wordsOf_len (by omega)
  have hb := blength_any All v (wordsOf N) w hv (by omega) (wordsOf_ws N)
  have h63 := bitsW_lt (wordsOf_ws N) (wordsOf_trimmed N) 63
  have h64 := bitsW_lt (wordsOf_ws N) (wordsOf_trimmed N) 64
  have e63 : (2 : Nat) ^ 63 = 9223372036854775808 := by decide
  have e64 : (2 : Nat) ^ 64 = 18446744073709551616 := by decide
  rw [wordsOf_val, e63] at h63
  rw [wordsOf_val, e64] at h64
  obtain ⟨K, hK⟩ : ∃ K, bitsW (wordsOf N) = K := ⟨_, rfl⟩
  rw [hK] at hb h63 h64
  obtain ⟨A, c, rfl, hv⟩ := wds_form hv
  have HB := Lib.hid hb
  have HT := Lib.hid htz
  clear hb htz hv hK hlen e63 e64
  by_cases hK1 : K < 64
  · have hz : (K : Int) < 64 := by omega
    have hres : decide (-9223372036854775808 ≤ n0 ∧ n0 ≤ 9223372036854775807) = true := decide_eq_true (by omega)
    rw [hres]
    clear h63 h64 hres
    go_enter Tryd.func59, Tryd.ntmps59
    go_wp2_with fail
    refine HB.out.mono ?_
    rintro e w1 ⟨rfl, rfl⟩
    go_wp2_with fail
    go_ret
    exact ⟨rfl, rfl⟩
  · have hz : ¬ (K : Int) < 64 := by omega
    by_cases hK2 : K = 64
    · subst hK2
      have hN1 : 9223372036854775808 ≤ N := by omega
      have hN2 : N < 18446744073709551616 := by omega
      by_cases hneg : n0 < 0
      · rw [decide_eq_true hneg] at c0
        have HT2 := Lib.hid (HT.out hN1 hN2)
        clear h63 h64 hz hK1 HT
        go_enter Tryd.func59, Tryd.ntmps59
        go_wp2_with fail
        refine HB.out.mono ?_
        rintro e w1 ⟨rfl, rfl⟩
        go_wp2_with fail
        refine HT2.out.mono ?_
        rintro e w2 ⟨⟨t, rfl, t1, t2, t3⟩, rfl⟩
        have hiff := tz_63 hN1 hN2 t1 t2 t3
        have HI := Lib.hid hiff
        clear t2 t3 hiff
        go_wp2_with fail
        go_ret
        refine ⟨?_, rfl⟩
        have hi := HI.out
        refine congrArg (fun x => Ending.returned (.bool x)) (?_ : ((t : Int) == 63) = _)
        rw [Bool.eq_iff_iff, beq_iff_eq, decide_eq_true_eq]
        omega
      · rw [decide_eq_false hneg] at c0
        have hres : decide (-9223372036854775808 ≤ n0 ∧ n0 ≤ 9223372036854775807) = false := decide_eq_false (by omega)
        rw [hres]
        clear h63 h64 hz hK1 HT hres
        go_enter Tryd.func59, Tryd.ntmps59
        go_wp2_with fail
        refine HB.out.mono ?_
        rintro e w1 ⟨rfl, rfl⟩
        go_wp2_with fail
        go_ret
        exact ⟨rfl, rfl⟩
    · have hz2 : ((K : Int) == 64) = false := by rw [beq_eq_false_iff_ne]; omega
      have hres : decide (-9223372036854775808 ≤ n0 ∧ n0 ≤ 9223372036854775807) = false := decide_eq_false (by omega)
      rw [hres]
      clear h63 h64 hres HT hK2
      go_enter Tryd.func59, Tryd.ntmps59
      go_wp2_with fail
      refine HB.out.mono ?_
      rintro e w1 ⟨rfl, rfl⟩
      go_wp2_with fail
      go_ret
      exact ⟨congrArg (fun x => Ending.returned (.bool x)) (decide_eq_false (by omega)), rfl⟩
end Go.Proofs.YtmklodgcbldndaaDoor
namespace Go.Proofs.YtmklodgcbldndaaDoor
open Go.RowKit Go.Proofs

inductive Ex where
  | mk (kind : Int) (name : Str) (vs : Int) (vn : Int) (vt : Str) (kids : List Ex)
namespace Ex
def kind : Ex → Int | mk x _ _ _ _ _ => x
def name : Ex → Str | mk _ x _ _ _ _ => x
def vs : Ex → Int | mk _ _ x _ _ _ => x
def vn : Ex → Int | mk _ _ _ x _ _ => x
def vt : Ex → Str | mk _ _ _ _ x _ => x
def kids : Ex → List Ex | mk _ _ _ _ _ x => x
theorem kind_mk (kind : Int) (name : Str) (vs : Int) (vn : Int) (vt : Str) (kids : List Ex) : (Ex.mk kind name vs vn vt kids).kind = kind := rfl
theorem name_mk (kind : Int) (name : Str) (vs : Int) (vn : Int) (vt : Str) (kids : List Ex) : (Ex.mk kind name vs vn vt kids).name = name := rfl
theorem vs_mk (kind : Int) (name : Str) (vs : Int) (vn : Int) (vt : Str) (kids : List Ex) : (Ex.mk kind name vs vn vt kids).vs = vs := rfl
theorem vn_mk (kind : Int) (name : Str) (vs : Int) (vn : Int) (vt : Str) (kids : List Ex) : (Ex.mk kind name vs vn vt kids).vn = vn := rfl
theorem vt_mk (kind : Int) (name : Str) (vs : Int) (vn : Int) (vt : Str) (kids : List Ex) : (Ex.mk kind name vs vn vt kids).vt = vt := rfl
theorem kids_mk (kind : Int) (name : Str) (vs : Int) (vn : Int) (vt : Str) (kids : List Ex) : (Ex.mk kind name vs vn vt kids).kids = kids := rfl
end Ex
def zeroEx : Ex := .mk 0 [] 0 0 [] []
/-- Lengths are at most N, numbers are of 64 bits. -/
inductive ExFit (N : Nat) : Ex → Prop where
  | mk (kind : Int) (name : Str) (vs : Int) (vn : Int) (vt : Str) (kids : List Ex) (h_kind : (Lit.int .i64 kind).wf = true) (h_name : name.length ≤ N) (h_vs : (Lit.int .i64 vs).wf = true) (h_vn : (Lit.int .i64 vn).wf = true) (h_vt : vt.length ≤ N) (h_kids : kids.length ≤ N) (g_kids : ∀ t ∈ kids, ExFit N t) : ExFit N (.mk kind name vs vn vt kids)
theorem ExFit.parts {N : Nat} {t : Ex} (h : ExFit N t) : (Lit.int .i64 t.kind).wf = true ∧ t.name.length ≤ N ∧ (Lit.int .i64 t.vs).wf = true ∧ (Lit.int .i64 t.vn).wf = true ∧ t.vt.length ≤ N ∧ t.kids.length ≤ N ∧ (∀ k ∈ t.kids, ExFit N k) := by
  cases h with
  | mk kind name vs vn vt kids h_kind h_name h_vs h_vn h_vt h_kids g_kids => exact ⟨h_kind, h_name, h_vs, h_vn, h_vt, h_kids, g_kids⟩
theorem ExFit.mono {N M : Nat} (hNM : N ≤ M) : ∀ {t : Ex}, ExFit N t → ExFit M t := by
  intro t h
  induction h with
  | mk kind name vs vn vt kids h_kind h_name h_vs h_vn h_vt h_kids g_kids ih => exact .mk kind name vs vn vt kids h_kind (Nat.le_trans h_name hNM) h_vs h_vn (Nat.le_trans h_vt hNM) (Nat.le_trans h_kids hNM) ih
theorem fit_zeroEx (N : Nat) : ExFit N zeroEx := .mk 0 [] 0 0 [] [] (by decide) (by simp) (by decide) (by decide) (by simp) (by simp) (by simp)
mutual
def ExAt (D : Blocks) (w : World) (b off : Nat) : Ex → Prop
  | .mk kind name vs vn vt kids => ∃ v_kids, w.cell? ⟨b, off, none⟩ = some (.int .i64 kind) ∧ w.cell? ⟨b, off + 1, none⟩ = some (.string ⟨name.toArray⟩) ∧ w.cell? ⟨b, off + 2, none⟩ = some (.int .i64 vs) ∧ w.cell? ⟨b, off + 3, none⟩ = some (.int .i64 vn) ∧ w.cell? ⟨b, off + 4, none⟩ = some (.string ⟨vt.toArray⟩) ∧ w.cell? ⟨b, off + 5, none⟩ = some (v_kids) ∧ ∃ A cap, v_kids = .slice A kids.length cap ∧ kids.length ≤ cap ∧ (A = none → cap = 0) ∧ (0 < kids.length → ∃ b' off', A = some ⟨b', off', none⟩ ∧ D b' ∧ ExRow D w b' off' kids)
def ExRow (D : Blocks) (w : World) (b off : Nat) : List Ex → Prop
  | [] => True
  | t :: r => ExAt D w b off t ∧ ExRow D w b (off + 6) r
end
def Exs (D : Blocks) (w : World) (v : Value) (ks : List Ex) : Prop := ∃ A cap, v = .slice A ks.length cap ∧ ks.length ≤ cap ∧ (A = none → cap = 0) ∧ (0 < ks.length → ∃ b off, A = some ⟨b, off, none⟩ ∧ D b ∧ ExRow D w b off ks)
def ExV (D : Blocks) (w : World) (v : Value) (t : Ex) : Prop := ∃ v_kids, v = .agg #[.int .i64 t.kind, .string ⟨t.name.toArray⟩, .int .i64 t.vs, .int .i64 t.vn, .string ⟨t.vt.toArray⟩, v_kids] ∧ Exs D w v_kids t.kids
theorem ExAt_iff (D : Blocks) (w : World) (b off : Nat) (t : Ex) : ExAt D w b off t ↔ ∃ v_kids, w.cell? ⟨b, off, none⟩ = some (.int .i64 t.kind) ∧ w.cell? ⟨b, off + 1, none⟩ = some (.string ⟨t.name.toArray⟩) ∧ w.cell? ⟨b, off + 2, none⟩ = some (.int .i64 t.vs) ∧ w.cell? ⟨b, off + 3, none⟩ = some (.int .i64 t.vn) ∧ w.cell? ⟨b, off + 4, none⟩ = some (.string ⟨t.vt.toArray⟩) ∧ w.cell? ⟨b, off + 5, none⟩ = some (v_kids) ∧ Exs D w v_kids t.kids := by
  cases t with
  | mk kind name vs vn vt kids => simp only [ExAt, Exs, Ex.kind, Ex.name, Ex.vs, Ex.vn, Ex.vt, Ex.kids]
theorem ExRow_at {D : Blocks} {w : World} {b : Nat} : ∀ {ks : List Ex} {off i : Nat} {t : Ex}, ExRow D w b off ks → ks[i]? = some t → ExAt D w b (off + i * 6) t := by
  intro ks
  induction ks with
  | nil => intro off i t _ h; simp at h
  | cons x r ih =>
    intro off i t h hi
    simp only [ExRow] at h
    match i, hi with
    | 0, hi => simp at hi; subst hi; simpa using h.1
    | i + 1, hi =>
      have := ih h.2 (by simpa using hi)
      rw [show off + (i + 1) * 6 = off + 6 + i * 6 by omega]
      exact this
theorem ExRow_of {D : Blocks} {w : World} {b : Nat} : ∀ {ks : List Ex} {off : Nat}, (∀ (i : Nat) t, ks[i]? = some t → ExAt D w b (off + i * 6) t) → ExRow D w b off ks
  | [], _, _ => by simp [ExRow]
  | t :: r, off, h => by
    simp only [ExRow]
    refine ⟨by simpa using h 0 t rfl, ExRow_of fun i u hi => ?_⟩
    have := h (i + 1) u (by simpa using hi)
    rw [show off + 6 + i * 6 = off + (i + 1) * 6 by omega]
    exact this
mutual
theorem ExAt_keep {D D' : Blocks} {w w' : World} (hs : Same D w w') (hD : ∀ b, D b → b < w.heap.size → D' b) : ∀ {b off : Nat} (t : Ex), D b → ExAt D w b off t → ExAt D' w' b off t
  | b, off, .mk kind name vs vn vt kids => by
    simp only [ExAt]
    rintro hd ⟨v_kids, h0, h1, h2, h3, h4, h5, A, cap, h8, h9, hz, h10⟩
    refine ⟨v_kids, hs.cell hd h0, hs.cell hd h1, hs.cell hd h2, hs.cell hd h3, hs.cell hd h4, hs.cell hd h5, A, cap, h8, h9, hz, fun h0 => ?_⟩
    obtain ⟨b', off', e, hd', hr⟩ := h10 h0
    refine ⟨b', off', e, hD b' hd' ?_, ExRow_keep hs hD kids hd' hr⟩
    cases kids with
    | nil => simp at h0
    | cons t r =>
      obtain ⟨hr1, -⟩ := hr
      obtain ⟨_, hc, -⟩ := (ExAt_iff _ _ _ _ _).1 hr1
      exact cell_lt hc
theorem ExRow_keep {D D' : Blocks} {w w' : World} (hs : Same D w w') (hD : ∀ b, D b → b < w.heap.size → D' b) : ∀ {b off : Nat} (ks : List Ex), D b → ExRow D w b off ks → ExRow D' w' b off ks
  | _, _, [] => by simp [ExRow]
  | b, off, t :: r => by
    simp only [ExRow]
    rintro hd ⟨h1, h2⟩
    exact ⟨ExAt_keep hs hD t hd h1, ExRow_keep hs hD r hd h2⟩
end
theorem Exs.keep {D D' : Blocks} {w w' : World} {v : Value} {ks : List Ex} (h : Exs D w v ks) (hs : Same D w w') (hD : ∀ b, D b → b < w.heap.size → D' b) : Exs D' w' v ks := by
  obtain ⟨A, cap, h1, h2, hz, h3⟩ := h
  refine ⟨A, cap, h1, h2, hz, fun h0 => ?_⟩
  obtain ⟨b, off, e, hd, hr⟩ := h3 h0
  refine ⟨b, off, e, hD b hd ?_, ExRow_keep hs hD ks hd hr⟩
  cases ks with
  | nil => simp at h0
  | cons t r =>
    obtain ⟨hr1, -⟩ := hr
    obtain ⟨_, hc, -⟩ := (ExAt_iff _ _ _ _ _).1 hr1
    exact cell_lt hc
theorem ExV.keep {D D' : Blocks} {w w' : World} {v : Value} {t : Ex} (h : ExV D w v t) (hs : Same D w w') (hD : ∀ b, D b → b < w.heap.size → D' b) : ExV D' w' v t := by
  obtain ⟨v_kids, h1, q_kids⟩ := h
  exact ⟨v_kids, h1, q_kids.keep hs hD⟩
theorem ExV.below {D : Blocks} {w w' : World} {v : Value} {t : Ex} (h : ExV D w v t) (hb : Below w.heap.size w w') : ExV D w' v t := h.keep (Same.below hb) fun _ h _ => h
theorem Exs.below {D : Blocks} {w w' : World} {v : Value} {t : List Ex} (h : Exs D w v t) (hb : Below w.heap.size w w') : Exs D w' v t := h.keep (Same.below hb) fun _ h _ => h
theorem ExV.all {D : Blocks} {w : World} {v : Value} {t : Ex} (h : ExV D w v t) : ExV All w v t := h.keep (Same.refl _ _) fun _ _ _ => trivial
theorem Exs.all {D : Blocks} {w : World} {v : Value} {t : List Ex} (h : Exs D w v t) : Exs All w v t := h.keep (Same.refl _ _) fun _ _ _ => trivial
theorem ExV.here {D : Blocks} {w : World} {v : Value} {t : Ex} (h : ExV D w v t) : ExV (· < w.heap.size) w v t := h.keep (Same.refl _ _) fun _ _ h => h
theorem Exs.one {D : Blocks} {w : World} {v : Value} {l : List Ex} (h : Exs D w v l) : v.oneCell' = true := by obtain ⟨A, cap, rfl, _⟩ := h; rfl
theorem ExV.one' {D : Blocks} {w : World} {v : Value} {t : Ex} (h : ExV D w v t) : ∃ A_kids n_kids c_kids, v = .agg #[.int .i64 t.kind, .string ⟨t.name.toArray⟩, .int .i64 t.vs, .int .i64 t.vn, .string ⟨t.vt.toArray⟩, .slice A_kids n_kids c_kids] ∧ Exs D w (.slice A_kids n_kids c_kids) t.kids := by
  obtain ⟨v_kids, rfl, q_kids⟩ := h
  have q_kids' := q_kids
  obtain ⟨A_kids, c_kids, rfl, -, -⟩ := q_kids
  exact ⟨_, _, _, rfl, q_kids'⟩
/-- One of the kids. -/
theorem exkid_at {D : Blocks} {w : World} {A : Option Addr} {n cap : Nat} {ks : List Ex} {i : Nat} {t : Ex} (h : Exs D w (.slice A n cap) ks) (hi : ks[i]? = some t) :
    n = ks.length ∧ n ≤ cap ∧ ∃ b off A_kids n_kids c_kids, A = some ⟨b, off, none⟩ ∧ D b ∧ w.cell? ⟨b, off + i * 6, none⟩ = some (.int .i64 t.kind) ∧ w.cell? ⟨b, off + i * 6 + 1, none⟩ = some (.string ⟨t.name.toArray⟩) ∧ w.cell? ⟨b, off + i * 6 + 2, none⟩ = some (.int .i64 t.vs) ∧ w.cell? ⟨b, off + i * 6 + 3, none⟩ = some (.int .i64 t.vn) ∧ w.cell? ⟨b, off + i * 6 + 4, none⟩ = some (.string ⟨t.vt.toArray⟩) ∧ w.cell? ⟨b, off + i * 6 + 5, none⟩ = some (.slice A_kids n_kids c_kids) ∧ Exs D w (.slice A_kids n_kids c_kids) t.kids := by
  obtain ⟨A', cap', e, hle, -, h3⟩ := h
  injection e with e1 e2 e3
  subst e1 e2 e3
  have hlt := (List.getElem?_eq_some_iff.1 hi).1
  obtain ⟨b, off, rfl, hd, hr⟩ := h3 (by omega)
  obtain ⟨v_kids, x0, x1, x2, x3, x4, x5, q_kids⟩ := (ExAt_iff _ _ _ _ _).1 (ExRow_at hr hi)
  have q_kids' := q_kids
  obtain ⟨A_kids, c_kids, rfl, -, -⟩ := q_kids
  exact ⟨rfl, hle, b, off, _, _, _, rfl, hd, x0, x1, x2, x3, x4, x5, q_kids'⟩
theorem exV_of {D : Blocks} {w : World} {t : Ex} {v_kids : Value} (q_kids : Exs D w v_kids t.kids) : ExV D w (.agg #[.int .i64 t.kind, .string ⟨t.name.toArray⟩, .int .i64 t.vs, .int .i64 t.vn, .string ⟨t.vt.toArray⟩, v_kids]) t := ⟨_, rfl, q_kids⟩
/-- The cells, one behind the other. -/
inductive ExCells (D : Blocks) (w : World) : List Value → List Ex → Prop where
  | nil : ExCells D w [] []
  | cons (t : Ex) (v_kids : Value) (xs : List Value) (ts : List Ex) (q_kids : Exs D w v_kids t.kids) (h : ExCells D w xs ts) :
      ExCells D w (.int .i64 t.kind :: .string ⟨t.name.toArray⟩ :: .int .i64 t.vs :: .int .i64 t.vn :: .string ⟨t.vt.toArray⟩ :: v_kids :: xs) (t :: ts)
theorem ExCells.length {D : Blocks} {w : World} {xs : List Value} {ts : List Ex} (h : ExCells D w xs ts) : xs.length = ts.length * 6 := by
  induction h with
  | nil => rfl
  | cons => simp only [List.length_cons]; omega
theorem ExCells.one {D : Blocks} {w : World} {xs : List Value} {ts : List Ex} (h : ExCells D w xs ts) : ∀ u ∈ xs, u.oneCell' = true := by
  induction h with
  | nil => simp
  | cons t v_kids xs ts q_kids _ ih =>
    intro u hu
    simp only [List.mem_cons] at hu
    rcases hu with rfl | rfl | rfl | rfl | rfl | rfl | hu
    · rfl
    · rfl
    · rfl
    · rfl
    · rfl
    · exact q_kids.one
    · exact ih u hu
theorem ExCells.append {D : Blocks} {w : World} {xs ys : List Value} {ts us : List Ex} (h : ExCells D w xs ts) (h' : ExCells D w ys us) : ExCells D w (xs ++ ys) (ts ++ us) := by
  induction h with
  | nil => exact h'
  | cons t v_kids xs ts q_kids _ ih => exact .cons t v_kids _ _ q_kids ih
theorem ExCells.keep {D D' : Blocks} {w w' : World} {xs : List Value} {ts : List Ex} (h : ExCells D w xs ts) (hs : Same D w w') (hD : ∀ b, D b → b < w.heap.size → D' b) : ExCells D' w' xs ts := by
  induction h with
  | nil => exact .nil
  | cons t v_kids xs ts q_kids _ ih => exact .cons t v_kids _ _ (q_kids.keep hs hD) ih
theorem ExCells.row {D : Blocks} {w : World} {b : Nat} {xs : List Value} {ts : List Ex} (h : ExCells D w xs ts) : ∀ (off : Nat), (∀ j u, xs[j]? = some u → w.cell? ⟨b, off + j, none⟩ = some u) → ExRow D w b off ts := by
  induction h with
  | nil => intro off _; simp [ExRow]
  | cons t v_kids xs ts q_kids _ ih =>
    intro off hc
    refine ⟨(ExAt_iff _ _ _ _ _).2 ⟨v_kids, hc 0 _ rfl, hc 1 _ rfl, hc 2 _ rfl, hc 3 _ rfl, hc 4 _ rfl, hc 5 _ rfl, q_kids⟩, ih (off + 6) fun j u hj => ?_⟩
    have := hc (j + 6) u (by simpa using hj)
    rw [show off + 6 + j = off + (j + 6) by omega]
    exact this
theorem own_exs {D : Blocks} {w : World} {base : Nat} {E : TypeId} {v : Value} {xs : List Value} {ts : List Ex} (h : w.ownsRow base E 6 v ts.length xs) (hc : ExCells D w xs ts) (hD : ∀ b, base ≤ b → D b) : Exs D w v ts := by
  have hcells := fun g => h.cells (g := g)
  rcases h.2 with ⟨rfl, h0⟩ | ⟨g, cap, cur, rfl, hg, _, hn, _⟩
  · refine ⟨none, 0, by rw [h0], by omega, fun _ => rfl, fun h1 => by omega⟩
  · refine ⟨_, cap, rfl, hn, (fun e => by cases e), fun _ => ⟨g, 0, rfl, hD g hg, hc.row 0 fun j u hj => ?_⟩⟩
    have := hcells g rfl j u hj
    rw [Go.WideShapes.add_plain] at this
    exact this
/-- A box of a call. -/
structure ExBox (w : World) (b : Nat) (t : Ex) (v_kids : Value) : Prop where
  c0 : w.cell? ⟨b, 0, none⟩ = some (.int .i64 t.kind)
  c1 : w.cell? ⟨b, 1, none⟩ = some (.string ⟨t.name.toArray⟩)
  c2 : w.cell? ⟨b, 2, none⟩ = some (.int .i64 t.vs)
  c3 : w.cell? ⟨b, 3, none⟩ = some (.int .i64 t.vn)
  c4 : w.cell? ⟨b, 4, none⟩ = some (.string ⟨t.vt.toArray⟩)
  c5 : w.cell? ⟨b, 5, none⟩ = some (v_kids)
  fr : ∀ j, w.frozen? ⟨b, j, none⟩ = false
  lt : b < w.heap.size
theorem ExBox.keep {w w' : World} {b B : Nat} {t : Ex} {v_kids : Value} (h : ExBox w b t v_kids) (hb : Below B w w') (hB : b < B) : ExBox w' b t v_kids :=
  ⟨(hb.cell (p := ⟨b, 0, none⟩) hB).trans h.c0, (hb.cell (p := ⟨b, 1, none⟩) hB).trans h.c1, (hb.cell (p := ⟨b, 2, none⟩) hB).trans h.c2, (hb.cell (p := ⟨b, 3, none⟩) hB).trans h.c3, (hb.cell (p := ⟨b, 4, none⟩) hB).trans h.c4, (hb.cell (p := ⟨b, 5, none⟩) hB).trans h.c5, fun j => (hb.frozen (p := ⟨b, j, none⟩) hB).trans (h.fr j), Nat.lt_of_lt_of_le h.lt hb.size⟩
theorem ExBox.far {w : World} {b : Nat} {t : Ex} {v_kids : Value} (h : ExBox w b t v_kids) {p : Addr} (hp : p.block ≠ b) (u : Value) : ExBox (w.setCell p u) b t v_kids :=
  ⟨(World.cell?_setCell_far w p _ u hp).trans h.c0, (World.cell?_setCell_far w p _ u hp).trans h.c1, (World.cell?_setCell_far w p _ u hp).trans h.c2, (World.cell?_setCell_far w p _ u hp).trans h.c3, (World.cell?_setCell_far w p _ u hp).trans h.c4, (World.cell?_setCell_far w p _ u hp).trans h.c5, fun j => by rw [World.frozen?_setCell]; exact h.fr j, by rw [World.size_setCell]; exact h.lt⟩
theorem ExBox.drewN {w : World} {b : Nat} {t : Ex} {v_kids : Value} (h : ExBox w b t v_kids) (n : Nat) : ExBox (w.drewN n) b t v_kids := ⟨h.c0, h.c1, h.c2, h.c3, h.c4, h.c5, h.fr, h.lt⟩
theorem ExBox.grown {w w' : World} {b : Nat} {row : Option Nat} {t : Ex} {v_kids : Value} (h : ExBox w b t v_kids) (hg : w.grownBy w' row) (hb : some b ≠ row) : ExBox w' b t v_kids := by
  have hc : ∀ j, w'.cell? ⟨b, j, none⟩ = w.cell? ⟨b, j, none⟩ := fun j => World.cell?_of_block (a := ⟨b, j, none⟩) (hg.block b h.lt hb)
  have hf : ∀ j, w'.frozen? ⟨b, j, none⟩ = w.frozen? ⟨b, j, none⟩ := fun j => World.frozen?_of_block (a := ⟨b, j, none⟩) (hg.block b h.lt hb)
  exact ⟨(hc 0).trans h.c0, (hc 1).trans h.c1, (hc 2).trans h.c2, (hc 3).trans h.c3, (hc 4).trans h.c4, (hc 5).trans h.c5, fun j => (hf j).trans (h.fr j), Nat.lt_of_lt_of_le h.lt hg.size⟩
theorem ExBox.set0 {w : World} {b : Nat} {t : Ex} {v_kids : Value} (h : ExBox w b t v_kids) (x : Int) : ExBox (w.setCell ⟨b, 0, none⟩ (.int .i64 x)) b (.mk x t.name t.vs t.vn t.vt t.kids) v_kids :=
  ⟨cell_eq h.c0, (cell_ne (by decide)).trans h.c1, (cell_ne (by decide)).trans h.c2, (cell_ne (by decide)).trans h.c3, (cell_ne (by decide)).trans h.c4, (cell_ne (by decide)).trans h.c5, fun j => by rw [World.frozen?_setCell]; exact h.fr j, by rw [World.size_setCell]; exact h.lt⟩
theorem ExBox.set1 {w : World} {b : Nat} {t : Ex} {v_kids : Value} (h : ExBox w b t v_kids) (x : Str) : ExBox (w.setCell ⟨b, 1, none⟩ (.string ⟨x.toArray⟩)) b (.mk t.kind x t.vs t.vn t.vt t.kids) v_kids :=
  ⟨(cell_ne (by decide)).trans h.c0, cell_eq h.c1, (cell_ne (by decide)).trans h.c2, (cell_ne (by decide)).trans h.c3, (cell_ne (by decide)).trans h.c4, (cell_ne (by decide)).trans h.c5, fun j => by rw [World.frozen?_setCell]; exact h.fr j, by rw [World.size_setCell]; exact h.lt⟩
theorem ExBox.set2 {w : World} {b : Nat} {t : Ex} {v_kids : Value} (h : ExBox w b t v_kids) (x : Int) : ExBox (w.setCell ⟨b, 2, none⟩ (.int .i64 x)) b (.mk t.kind t.name x t.vn t.vt t.kids) v_kids :=
  ⟨(cell_ne (by decide)).trans h.c0, (cell_ne (by decide)).trans h.c1, cell_eq h.c2, (cell_ne (by decide)).trans h.c3, (cell_ne (by decide)).trans h.c4, (cell_ne (by decide)).trans h.c5, fun j => by rw [World.frozen?_setCell]; exact h.fr j, by rw [World.size_setCell]; exact h.lt⟩
theorem ExBox.set3 {w : World} {b : Nat} {t : Ex} {v_kids : Value} (h : ExBox w b t v_kids) (x : Int) : ExBox (w.setCell ⟨b, 3, none⟩ (.int .i64 x)) b (.mk t.kind t.name t.vs x t.vt t.kids) v_kids :=
  ⟨(cell_ne (by decide)).trans h.c0, (cell_ne (by decide)).trans h.c1, (cell_ne (by decide)).trans h.c2, cell_eq h.c3, (cell_ne (by decide)).trans h.c4, (cell_ne (by decide)).trans h.c5, fun j => by rw [World.frozen?_setCell]; exact h.fr j, by rw [World.size_setCell]; exact h.lt⟩
theorem ExBox.set4 {w : World} {b : Nat} {t : Ex} {v_kids : Value} (h : ExBox w b t v_kids) (x : Str) : ExBox (w.setCell ⟨b, 4, none⟩ (.string ⟨x.toArray⟩)) b (.mk t.kind t.name t.vs t.vn x t.kids) v_kids :=
  ⟨(cell_ne (by decide)).trans h.c0, (cell_ne (by decide)).trans h.c1, (cell_ne (by decide)).trans h.c2, (cell_ne (by decide)).trans h.c3, cell_eq h.c4, (cell_ne (by decide)).trans h.c5, fun j => by rw [World.frozen?_setCell]; exact h.fr j, by rw [World.size_setCell]; exact h.lt⟩
theorem ExBox.set5 {w : World} {b : Nat} {t : Ex} {v_kids : Value} (h : ExBox w b t v_kids) (v : Value) (x : List Ex) : ExBox (w.setCell ⟨b, 5, none⟩ (v)) b (.mk t.kind t.name t.vs t.vn t.vt x) v :=
  ⟨(cell_ne (by decide)).trans h.c0, (cell_ne (by decide)).trans h.c1, (cell_ne (by decide)).trans h.c2, (cell_ne (by decide)).trans h.c3, (cell_ne (by decide)).trans h.c4, cell_eq h.c5, fun j => by rw [World.frozen?_setCell]; exact h.fr j, by rw [World.size_setCell]; exact h.lt⟩
theorem ExBox.fill {w : World} {b : Nat} {t0 : Ex} {u_kids : Value} (h : ExBox w b t0 u_kids) (t : Ex) (v_kids : Value) :
    ExBox ((((((w.setCell ⟨b, 0, none⟩ (.int .i64 t.kind)).setCell ⟨b, 1, none⟩ (.string ⟨t.name.toArray⟩)).setCell ⟨b, 2, none⟩ (.int .i64 t.vs)).setCell ⟨b, 3, none⟩ (.int .i64 t.vn)).setCell ⟨b, 4, none⟩ (.string ⟨t.vt.toArray⟩)).setCell ⟨b, 5, none⟩ (v_kids)) b t v_kids := by
  have := ((((((h.set0 t.kind).set1 t.name).set2 t.vs).set3 t.vn).set4 t.vt).set5 v_kids t.kids)
  cases t
  exact this
theorem Same.fillEx {D : Blocks} {w : World} {b : Nat} (h : ¬ D b) (x0 x1 x2 x3 x4 x5 : Value) :
    Same D w ((((((w.setCell ⟨b, 0, none⟩ x0).setCell ⟨b, 1, none⟩ x1).setCell ⟨b, 2, none⟩ x2).setCell ⟨b, 3, none⟩ x3).setCell ⟨b, 4, none⟩ x4).setCell ⟨b, 5, none⟩ x5) := by
  have hsz : ∀ (w : World) (a : Addr) (u : Value), w.heap.size ≤ (w.setCell a u).heap.size := fun w a u => by rw [World.size_setCell]; exact Nat.le_refl _
  have k0 : Same D w (w.setCell ⟨b, 0, none⟩ x0) := Same.set h
  have k1 : Same D w ((w.setCell ⟨b, 0, none⟩ x0).setCell ⟨b, 1, none⟩ x1) := Same.trans k0 (by simp only [World.size_setCell]; exact Nat.le_refl _) (Same.set h)
  have k2 : Same D w (((w.setCell ⟨b, 0, none⟩ x0).setCell ⟨b, 1, none⟩ x1).setCell ⟨b, 2, none⟩ x2) := Same.trans k1 (by simp only [World.size_setCell]; exact Nat.le_refl _) (Same.set h)
  have k3 : Same D w ((((w.setCell ⟨b, 0, none⟩ x0).setCell ⟨b, 1, none⟩ x1).setCell ⟨b, 2, none⟩ x2).setCell ⟨b, 3, none⟩ x3) := Same.trans k2 (by simp only [World.size_setCell]; exact Nat.le_refl _) (Same.set h)
  have k4 : Same D w (((((w.setCell ⟨b, 0, none⟩ x0).setCell ⟨b, 1, none⟩ x1).setCell ⟨b, 2, none⟩ x2).setCell ⟨b, 3, none⟩ x3).setCell ⟨b, 4, none⟩ x4) := Same.trans k3 (by simp only [World.size_setCell]; exact Nat.le_refl _) (Same.set h)
  have k5 : Same D w ((((((w.setCell ⟨b, 0, none⟩ x0).setCell ⟨b, 1, none⟩ x1).setCell ⟨b, 2, none⟩ x2).setCell ⟨b, 3, none⟩ x3).setCell ⟨b, 4, none⟩ x4).setCell ⟨b, 5, none⟩ x5) := Same.trans k4 (by simp only [World.size_setCell]; exact Nat.le_refl _) (Same.set h)
  exact k5
theorem below_fillEx {B : Nat} {a w : World} (h : Below B a w) {b : Nat} (hb : B ≤ b) (x0 x1 x2 x3 x4 x5 : Value) :
    Below B a ((((((w.setCell ⟨b, 0, none⟩ x0).setCell ⟨b, 1, none⟩ x1).setCell ⟨b, 2, none⟩ x2).setCell ⟨b, 3, none⟩ x3).setCell ⟨b, 4, none⟩ x4).setCell ⟨b, 5, none⟩ x5) :=
  ((((((h.setCell hb _).setCell hb _).setCell hb _).setCell hb _).setCell hb _).setCell hb _)
theorem new_exbox (w : World) (E : TypeId) : ExBox (w.alloc (.cells #[.int .i64 0, .string ⟨#[]⟩, .int .i64 0, .int .i64 0, .string ⟨#[]⟩, .slice none 0 0] E)) w.heap.size zeroEx (.slice none 0 0) :=
  ⟨by simp [go_sem]; rfl, by simp [go_sem]; rfl, by simp [go_sem]; rfl, by simp [go_sem]; rfl, by simp [go_sem]; rfl, by simp [go_sem], fun j => by simp [go_sem], by simp⟩
theorem new_exval (w : World) (t : Ex) (v_kids : Value) (E : TypeId) : ExBox (w.alloc (.cells #[.int .i64 t.kind, .string ⟨t.name.toArray⟩, .int .i64 t.vs, .int .i64 t.vn, .string ⟨t.vt.toArray⟩, v_kids] E)) w.heap.size t v_kids :=
  ⟨by simp [go_sem], by simp [go_sem], by simp [go_sem], by simp [go_sem], by simp [go_sem], by simp [go_sem], fun j => by simp [go_sem], by simp⟩
theorem no_exs (D : Blocks) (w : World) : Exs D w (.slice none 0 0) [] := ⟨none, 0, rfl, Nat.le_refl _, fun _ => rfl, fun h => by simp at h⟩
theorem zero_ex (D : Blocks) (w : World) : ExV D w (.agg #[.int .i64 0, .string ⟨#[]⟩, .int .i64 0, .int .i64 0, .string ⟨#[]⟩, .slice none 0 0]) zeroEx := ⟨_, rfl, no_exs _ _⟩
set_option maxRecDepth 100000
theorem rt_exs : RowType Tryd.prog 24 26 6 80 := .mk' (z := .agg #[.int .i64 0, .string ⟨#[]⟩, .int .i64 0, .int .i64 0, .string ⟨#[]⟩, .slice none 0 0]) Tryd.underlying24 (by kernel_rfl) rfl (by decide)
theorem ExRow.cells {D : Blocks} {w : World} {b : Nat} : ∀ {ts : List Ex} {off : Nat}, ExRow D w b off ts → ∃ xs, ExCells D w xs ts ∧ ∀ j u, xs[j]? = some u → w.cell? ⟨b, off + j, none⟩ = some u := by
  intro ts
  induction ts with
  | nil => intro off _; exact ⟨[], .nil, fun j u h => by simp at h⟩
  | cons t r ih =>
    intro off h
    simp only [ExRow] at h
    obtain ⟨xs, h1, h2⟩ := ih h.2
    obtain ⟨v_kids, x0, x1, x2, x3, x4, x5, q_kids⟩ := (ExAt_iff _ _ _ _ _).1 h.1
    refine ⟨_, .cons t v_kids xs r q_kids h1, fun j u hj => ?_⟩
    match j, hj with
    | 0, hj => simp at hj; subst hj; exact x0
    | 1, hj => simp at hj; subst hj; exact x1
    | 2, hj => simp at hj; subst hj; exact x2
    | 3, hj => simp at hj; subst hj; exact x3
    | 4, hj => simp at hj; subst hj; exact x4
    | 5, hj => simp at hj; subst hj; exact x5
    | j + 6, hj =>
      have := h2 j u (by simpa using hj)
      rw [show off + (j + 6) = off + 6 + j by omega]
      exact this
/-- What is handed to an append. -/
theorem Exs.src {D : Blocks} {w : World} {A : Option Addr} {n c : Nat} {ts : List Ex} (h : Exs D w (.slice A n c) ts) : n = ts.length ∧ n ≤ c ∧ (A = none → n = 0 ∧ c = 0) ∧ ∃ xs, ExCells D w xs ts ∧ ∀ ad, A = some ad → ∀ j u, xs[j]? = some u → w.cell? (ad.add j) = some u := by
  obtain ⟨A', c', e, hle, hz, h3⟩ := h
  injection e with e1 e2 e3
  subst e1 e2 e3
  refine ⟨rfl, hle, fun e => ⟨by have := hz e; omega, hz e⟩, ?_⟩
  rcases Nat.eq_zero_or_pos ts.length with h0 | h0
  · obtain rfl := List.eq_nil_of_length_eq_zero h0
    exact ⟨[], .nil, fun _ _ j u hj => by simp at hj⟩
  · obtain ⟨b, off, rfl, -, hr⟩ := h3 h0
    obtain ⟨xs, h1, h2⟩ := hr.cells
    refine ⟨xs, h1, fun ad e j u hj => ?_⟩
    obtain rfl := Option.some.inj e
    rw [Go.WideShapes.add_plain]
    exact h2 j u hj
/-- A list of which the first is taken away. -/
theorem Exs.tail {D : Blocks} {w : World} {b off n cap c : Nat} {t : Ex} {ts : List Ex} (h : Exs D w (.slice (some ⟨b, off, none⟩) n cap) (t :: ts)) (hc : ts.length ≤ c) : Exs D w (.slice (some ⟨b, off + 6, none⟩) ts.length c) ts := by
  obtain ⟨A', c', e, hle, hz, h3⟩ := h
  injection e with e1 e2 e3
  obtain ⟨b', off', e', hd, hr⟩ := h3 (by simp)
  rw [← e1] at e'
  obtain ⟨rfl, rfl⟩ : b = b' ∧ off = off' := by have := Option.some.inj e'; injection this with h1 h2; exact ⟨h1, h2⟩
  exact ⟨_, c, rfl, hc, (fun e => by cases e), fun _ => ⟨b, off + 6, rfl, hd, hr.2⟩⟩
end Go.Proofs.YtmklodgcbldndaaDoor
namespace Go.Proofs.YtmklodgcbldndaaDoor
open Go.RowKit Go.Proofs

/-- A type: kind, sort, name, labels, kids. -/
inductive Ty where
  | mk (kind sort : Int) (name : Str) (labels : List Str) (kids : List Ty)

namespace Ty
def kind : Ty → Int | mk k _ _ _ _ => k
def sort : Ty → Int | mk _ s _ _ _ => s
def name : Ty → Str | mk _ _ n _ _ => n
def labels : Ty → List Str | mk _ _ _ l _ => l
def kids : Ty → List Ty | mk _ _ _ _ k => k
end Ty

mutual
/-- A type lies at a place. -/
def TyAt (w : World) (b off : Nat) : Ty → Prop
  | .mk k s n ls ks => ∃ lv kv, w.cell? ⟨b, off, none⟩ = some (.int .i64 k) ∧ w.cell? ⟨b, off + 1, none⟩ = some (.int .i64 s) ∧ w.cell? ⟨b, off + 2, none⟩ = some (.string ⟨n.toArray⟩) ∧ w.cell? ⟨b, off + 3, none⟩ = some lv ∧ w.cell? ⟨b, off + 4, none⟩ = some kv ∧
      IsStrs w lv ls ∧ ∃ A cap, kv = .slice A ks.length cap ∧ ks.length ≤ cap ∧ (0 < ks.length → ∃ b' off', A = some ⟨b', off', none⟩ ∧ TyRow w b' off' ks)
/-- Types lie one behind the other. -/
def TyRow (w : World) (b off : Nat) : List Ty → Prop
  | [] => True
  | t :: r => TyAt w b off t ∧ TyRow w b (off + 5) r
end
/-- A slice of types. -/
def IsTys (w : World) (v : Value) (ks : List Ty) : Prop := ∃ A cap, v = .slice A ks.length cap ∧ ks.length ≤ cap ∧ (0 < ks.length → ∃ b off, A = some ⟨b, off, none⟩ ∧ TyRow w b off ks)
/-- A type by value. -/
def IsTy (w : World) (v : Value) (t : Ty) : Prop := ∃ lv kv, v = .agg #[.int .i64 t.kind, .int .i64 t.sort, .string ⟨t.name.toArray⟩, lv, kv] ∧ IsStrs w lv t.labels ∧ IsTys w kv t.kids

theorem TyAt_iff (w : World) (b off : Nat) (t : Ty) : TyAt w b off t ↔ ∃ lv kv, w.cell? ⟨b, off, none⟩ = some (.int .i64 t.kind) ∧ w.cell? ⟨b, off + 1, none⟩ = some (.int .i64 t.sort) ∧ w.cell? ⟨b, off + 2, none⟩ = some (.string ⟨t.name.toArray⟩) ∧ w.cell? ⟨b, off + 3, none⟩ = some lv ∧ w.cell? ⟨b, off + 4, none⟩ = some kv ∧
    IsStrs w lv t.labels ∧ IsTys w kv t.kids := by
  cases t with
  | mk k s n ls ks => simp only [TyAt, IsTys, Ty.kind, Ty.sort, Ty.name, Ty.labels, Ty.kids]
theorem TyRow_at {w : World} {b : Nat} : ∀ {ks : List Ty} {off i : Nat} {t : Ty}, TyRow w b off ks → ks[i]? = some t → TyAt w b (off + i * 5) t := by
  intro ks
  induction ks with
  | nil => intro off i t _ h; simp at h
  | cons x r ih =>
    intro off i t h hi
    simp only [TyRow] at h
    match i, hi with
    | 0, hi => simp at hi; subst hi; simpa using h.1
    | i + 1, hi =>
      have := ih h.2 (by simpa using hi)
      rw [show off + (i + 1) * 5 = off + 5 + i * 5 by omega]
      exact this
theorem TyRow_of {w : World} {b : Nat} : ∀ {ks : List Ty} {off : Nat}, (∀ i t, ks[i]? = some t → TyAt w b (off + i * 5) t) → TyRow w b off ks := by
  intro ks
  induction ks with
  | nil => intro off _; simp [TyRow]
  | cons x r ih =>
    intro off h
    simp only [TyRow]
    refine ⟨by simpa using h 0 x rfl, ih fun i t hi => ?_⟩
    have := h (i + 1) t (by simpa using hi)
    rw [show off + (i + 1) * 5 = off + 5 + i * 5 by omega] at this
    exact this

mutual
theorem TyAt_keep {w w' : World} (hb : Below w.heap.size w w') : ∀ {b off : Nat} (t : Ty), TyAt w b off t → TyAt w' b off t
  | b, off, .mk k s n ls ks => by
    simp only [TyAt]
    rintro ⟨lv, kv, h0, h1, h2, h3, h4, h5, A, cap, h6, h7, h8⟩
    exact ⟨lv, kv, cell_keep h0 hb, cell_keep h1 hb, cell_keep h2 hb, cell_keep h3 hb, cell_keep h4 hb, h5.keep hb, A, cap, h6, h7, fun h0 => let ⟨b, off, e, hr⟩ := h8 h0; ⟨b, off, e, TyRow_keep hb ks hr⟩⟩
theorem TyRow_keep {w w' : World} (hb : Below w.heap.size w w') : ∀ {b off : Nat} (ks : List Ty), TyRow w b off ks → TyRow w' b off ks
  | _, _, [] => by simp [TyRow]
  | b, off, t :: r => by
    simp only [TyRow]
    rintro ⟨h1, h2⟩
    exact ⟨TyAt_keep hb t h1, TyRow_keep hb r h2⟩
end
theorem IsTys.keep {w w' : World} {v : Value} {ks : List Ty} (h : IsTys w v ks) (hb : Below w.heap.size w w') : IsTys w' v ks := by
  obtain ⟨A, cap, h1, h2, h3⟩ := h
  exact ⟨A, cap, h1, h2, fun h0 => let ⟨b, off, e, hr⟩ := h3 h0; ⟨b, off, e, TyRow_keep hb ks hr⟩⟩
theorem IsTy.keep {w w' : World} {v : Value} {t : Ty} (h : IsTy w v t) (hb : Below w.heap.size w w') : IsTy w' v t := by
  obtain ⟨lv, kv, h1, h2, h3⟩ := h
  exact ⟨lv, kv, h1, h2.keep hb, h3.keep hb⟩
end Go.Proofs.YtmklodgcbldndaaDoor
namespace Go.Proofs.YtmklodgcbldndaaDoor
open Go.RowKit Go.Proofs

set_option maxRecDepth 100000
/-- Small letters only. -/
def low (l : Str) : Bool := l.all fun b => decide (97 ≤ b.toNat) && decide (b.toNat ≤ 122)
def alphabet : Str := [97, 98, 99, 100, 101, 102, 103, 104, 105, 106, 107, 108, 109, 110, 111, 112, 113, 114, 115, 116, 117, 118, 119, 120, 121, 122]
/-- The words of the language. -/
def words : List Str := [[116, 114, 117, 101], [102, 97, 108, 115, 101], [97, 110, 100], [111, 114], [110, 111, 116]]
def small (l : Str) : Bool := low l && decide (1 ≤ l.length) && decide (l.length ≤ 8)
def isName (l : Str) : Bool := small l && !decide (l ∈ words)
def isVar (l : Str) : Bool := isName l && (!(l == [101, 110, 100]) && !(l == [114, 101, 99]))

theorem alphabet_has (b : UInt8) : alphabet.contains b = (decide (97 ≤ b.toNat) && decide (b.toNat ≤ 122)) := by
  have : ∀ n : Fin 256, alphabet.contains (UInt8.ofNat n.val) = (decide (97 ≤ n.val) && decide (n.val ≤ 122)) := by decide +kernel
  have h := this ⟨b.toNat, b.toNat_lt⟩
  simpa using h
theorem dw_all {p : UInt8 → Bool} : ∀ {l : Str}, (∀ b ∈ l.dropWhile p, p b = true) → ∀ b ∈ l, p b = true := by
  intro l
  induction l with
  | nil => intro _ b hb; simp at hb
  | cons x l ih =>
    intro h b hb
    by_cases hx : p x = true
    · rw [List.dropWhile_cons, if_pos hx] at h
      rcases List.mem_cons.1 hb with rfl | hb
      · exact hx
      · exact ih h b hb
    · rw [List.dropWhile_cons, if_neg hx] at h
      exact h b hb
theorem dw_nil {p : UInt8 → Bool} : ∀ {l : Str}, (∀ b ∈ l, p b = true) → l.dropWhile p = [] := by
  intro l
  induction l with
  | nil => intro _; rfl
  | cons x l ih =>
    intro h
    rw [List.dropWhile_cons, if_pos (h x (by simp))]
    exact ih fun b hb => h b (by simp [hb])
theorem trim_low (l : Str) : Lib.trimS l alphabet = [] ↔ low l = true := by
  unfold Lib.trimS Lib.trimLeftS Lib.trimRightS low
  rw [List.all_eq_true]
  have he : ∀ b, (decide (97 ≤ b.toNat) && decide (b.toNat ≤ 122)) = alphabet.contains b := fun b => (alphabet_has b).symm
  simp only [he]
  constructor
  · intro h
    have h1 : ∀ b ∈ (l.reverse.dropWhile (alphabet.contains ·)).reverse, alphabet.contains b = true := dw_all (by rw [h]; simp)
    have h2 := dw_all (p := (alphabet.contains ·)) (l := l.reverse) fun b hb => h1 b (by simpa using hb)
    intro b hb
    exact h2 b (by simpa using hb)
  · intro h
    have h1 : l.reverse.dropWhile (alphabet.contains ·) = [] := dw_nil fun b hb => h b (by simpa using hb)
    rw [h1]
    rfl
theorem contains_mk (zs : List Str) (x : Str) : Lib.containsS (zs.map fun s => ⟨s.toArray⟩) ⟨x.toArray⟩ = decide (x ∈ zs) := by
  rw [Bool.eq_iff_iff, Lib.containsS_iff, decide_eq_true_eq, List.mem_map]
  constructor
  · rintro ⟨s, hs, h⟩
    rw [mk_inj] at h
    exact h ▸ hs
  · intro h
    exact ⟨x, h, rfl⟩

/-- slices.Contains on a slice of texts. -/
theorem contains_any {w : World} {v : Value} {zs : List Str} (h : IsStrs w v zs) (hl : zs.length ≤ 9223372036854775807) (x : Str) :
    Calls Tryd.prog 38 #[v, .string ⟨x.toArray⟩] w fun e w' => e = .returned (.bool (decide (x ∈ zs))) ∧ w' = w := by
  obtain ⟨A, cap, rfl, hc, h3⟩ := h
  rcases Nat.eq_zero_or_pos zs.length with h0 | h0
  · obtain rfl := List.eq_nil_of_length_eq_zero h0
    simpa using Tryd.slices_Contains_string_empty A cap ⟨x.toArray⟩ w
  · obtain ⟨b, off, rfl, hr⟩ := h3 h0
    have := Tryd.slices_Contains_string b off zs.length cap (zs.map fun s => ⟨s.toArray⟩) ⟨x.toArray⟩ w (by simp) hl (by
      intro j hj
      have hj' : j < zs.length := by simpa using hj
      rw [hr j zs[j] (by simp [hj'])]
      simp [List.getD, hj'])
    rw [List.take_of_length_le (by simp), contains_mk] at this
    exact this

theorem low_drop {l : Str} {k : Nat} {x : UInt8} (h : l[k]? = some x) : low (l.drop k) = ((decide (97 ≤ x.toNat) && decide (x.toNat ≤ 122)) && low (l.drop (k + 1))) := by
  obtain ⟨h1, h2⟩ := List.getElem?_eq_some_iff.1 h
  rw [List.drop_eq_getElem_cons h1, h2]
  rfl
set_option maxHeartbeats 1000000 in
theorem small_any (l : Str) (w : World) (hl : l.length ≤ 9223372036854775807) :
    Calls Tryd.prog 37 #[.string ⟨l.toArray⟩] w fun e w' => e = .returned (.bool (small l)) ∧ w' = w := by
  obtain ⟨ANS, hA⟩ : ∃ x, small l = x := ⟨_, rfl⟩
  have HA := Lib.hid hA; rw [hA]; clear hA
  go_enter Tryd.func37, Tryd.ntmps37
  go_wp2
  go_loop [3] (fun i => ∃ k : Nat, k ≤ l.length ∧ i = .int .i64 k ∧ Hid (low l = low (l.drop k))) (fun i => l.length - (intOf i).toNat)
  case atStart => exact ⟨0, by omega, rfl, rfl⟩
  case round =>
    obtain ⟨k, hk, rfl, hf⟩ := hrel
    by_cases hlt : k < l.length
    · obtain ⟨x, hx⟩ : ∃ x, l[k]? = some x := ⟨_, List.getElem?_eq_getElem hlt⟩
      have HX := Lib.hid hx; clear hx
      have E : ((⟨l.toArray⟩ : ByteArray)[k]'(by simpa [ByteArray.size] using hlt)).toNat = x.toNat := by rw [byte_at' HX.out]
      go_wp2_with fail
      · go_ret
        refine ⟨ret_bool' ?_, rfl⟩
        have := hf.out
        rw [low_drop HX.out] at this
        rw [← HA.out]
        have hx : ¬ (97 ≤ x.toNat ∧ x.toNat ≤ 122) := by omega
        unfold small
        rw [this]
        by_cases h97 : 97 ≤ x.toNat
        · have : ¬ x.toNat ≤ 122 := fun h => hx ⟨h97, h⟩
          simp [this]
        · simp [h97]
      · refine ⟨⟨k + 1, by omega, by simp, ?_⟩, by simp [intOf]; omega⟩
        show low l = _
        have := hf.out
        rw [low_drop HX.out] at this
        have e1 : 97 ≤ x.toNat := by omega
        have e2 : x.toNat ≤ 122 := by omega
        rw [this]
        simp [e1, e2]
      · go_ret
        refine ⟨ret_bool' ?_, rfl⟩
        have := hf.out
        rw [low_drop HX.out] at this
        rw [← HA.out]
        have h97 : ¬ 97 ≤ x.toNat := by omega
        unfold small
        rw [this]
        simp [h97]
    · have hk' : k = l.length := by omega
      subst hk'
      clear hlt
      have hlow : low l = true := by rw [hf.out]; simp [low]
      have HL := Lib.hid hlow; clear hlow hf
      go_wp2_with fail
      · go_ret
        refine ⟨ret_bool' ?_, rfl⟩
        rw [← HA.out]
        unfold small
        rw [HL.out]
        have e1 : 1 ≤ l.length := by omega
        simp [e1]
        omega
      · go_ret
        refine ⟨ret_bool' ?_, rfl⟩
        rw [← HA.out]
        unfold small
        have e1 : ¬ 1 ≤ l.length := by omega
        simp [e1]

theorem words_in (w : World) : IsStrs (w.alloc (.cells #[.string ⟨#[116, 114, 117, 101]⟩, .string ⟨#[102, 97, 108, 115, 101]⟩, .string ⟨#[97, 110, 100]⟩, .string ⟨#[111, 114]⟩, .string ⟨#[110, 111, 116]⟩] 9)) (.slice (some ⟨w.heap.size, 0, none⟩) 5 5) words := by
  refine ⟨_, 5, rfl, by decide, fun _ => ⟨w.heap.size, 0, rfl, fun i s hi => ?_⟩⟩
  match i, hi with
  | 0, hi | 1, hi | 2, hi | 3, hi | 4, hi => simp [words] at hi; subst hi; simp [go_sem]
  | i + 5, hi => simp [words] at hi

set_option maxHeartbeats 1000000 in
theorem refIsName_any (l : Str) (w : World) (hl : l.length ≤ 9223372036854775807) :
    Calls Tryd.prog 19 #[.string ⟨l.toArray⟩] w fun e w' => e = .returned (.bool (isName l)) ∧ Below w.heap.size w w' := by
  obtain ⟨ANS, hA⟩ : ∃ x, isName l = x := ⟨_, rfl⟩
  have HA := Lib.hid hA; rw [hA]; clear hA
  cases hs : small l with
  | false =>
    have HS := Lib.hid hs; clear hs
    go_enter Tryd.func19, Tryd.ntmps19
    go_wp2_with fail
    refine (small_any l _ hl).mono ?_; rw [HS.out]; rintro e w1 ⟨rfl, rfl⟩
    go_wp2_with fail
    go_ret
    exact ⟨ret_bool' (by rw [← HA.out]; simp [isName, HS.out]), by go_grown⟩
  | true =>
    have HS := Lib.hid hs; clear hs
    go_enter Tryd.func19, Tryd.ntmps19
    go_wp2_with fail
    refine (small_any l _ hl).mono ?_; rw [HS.out]; rintro e w1 ⟨rfl, rfl⟩
    go_wp2_with fail
    refine (contains_any (words_in _) (by decide) l).mono ?_; rintro e w1 ⟨rfl, rfl⟩
    go_wp2_with fail
    go_ret
    exact ⟨ret_bool' (by rw [← HA.out]; simp [isName, HS.out]), by go_grown⟩

theorem trim_any (l : Str) (w : World) (hl : l.length ≤ 9223372036854775807) :
    Calls Tryd.prog 63 #[.string ⟨l.toArray⟩, .string ⟨#[97, 98, 99, 100, 101, 102, 103, 104, 105, 106, 107, 108, 109, 110, 111, 112, 113, 114, 115, 116, 117, 118, 119, 120, 121, 122]⟩] w fun e w' => e = .returned (.string ⟨(Lib.trimS l alphabet).toArray⟩) ∧ Below w.heap.size w w' :=
  Any.strings_Trim_laid Tryd.lays160 (by kernel_rfl) ⟨l.toArray⟩ ⟨alphabet.toArray⟩ w (by rw [Lib.size_eq]; exact hl) (by decide) (ascii_of_all (by decide +kernel))
set_option maxHeartbeats 1000000 in
theorem isName_any (l : Str) (w : World) (hl : l.length ≤ 9223372036854775807) :
    Calls Tryd.prog 42 #[.string ⟨l.toArray⟩] w fun e w' => e = .returned (.bool (isName l)) ∧ Below w.heap.size w w' := by
  obtain ⟨ANS, hA⟩ : ∃ x, isName l = x := ⟨_, rfl⟩
  have HA := Lib.hid hA; rw [hA]; clear hA
  by_cases h0 : l = []
  · subst h0
    go_enter Tryd.func42, Tryd.ntmps42
    go_wp2_with fail
    go_ret
    exact ⟨ret_bool' (by rw [← HA.out]; rfl), by go_grown⟩
  · have h1 : 1 ≤ l.length := by have : l.length ≠ 0 := by simpa using h0
                                 omega
    obtain ⟨T, hT⟩ : ∃ x, Lib.trimS l alphabet = x := ⟨_, rfl⟩
    have HT := Lib.hid hT; clear hT
    by_cases hlow : low l = true
    · have hT0 : T = [] := by rw [← HT.out]; exact (trim_low l).2 hlow
      subst hT0
      have HL := Lib.hid hlow; clear hlow
      have H1 := Lib.hid h1; clear h1
      have hE : l.isEmpty = false := by simpa using h0
      go_enter Tryd.func42, Tryd.ntmps42
      go_wp2_with fail
      · refine (trim_any l _ hl).mono ?_; rw [HT.out]; rintro e w1 ⟨rfl, hb1⟩
        have h8 : decide (8 < (l.length : Int)) = false := by simp; omega
        go_wp2_with fail
        refine (contains_any (words_in _) (by decide) l).mono ?_; rintro e w1 ⟨rfl, rfl⟩
        go_wp2_with fail
        go_ret
        refine ⟨ret_bool' ?_, chain hb1 (by go_grown)⟩
        have e1 := H1.out
        have e2 : l.length ≤ 8 := by omega
        rw [← HA.out]; simp [isName, small, HL.out, e1, e2]
      · go_ret
        refine ⟨ret_bool' ?_, by go_grown⟩
        have e2 : ¬ l.length ≤ 8 := by omega
        rw [← HA.out]; simp [isName, small, e2]
    · have hT0 : T ≠ [] := by rw [← HT.out]; exact fun h => hlow ((trim_low l).1 h)
      have hT1 : T.isEmpty = false := by simpa using hT0
      have hlow' : low l = false := by simpa using hlow
      have HL := Lib.hid hlow'; clear hlow hlow' hT0
      have H1 := Lib.hid h1; clear h1
      go_enter Tryd.func42, Tryd.ntmps42
      go_wp2_with fail
      · refine (trim_any l _ hl).mono ?_; rw [HT.out]; rintro e w1 ⟨rfl, hb1⟩
        go_wp2_with fail
        go_ret
        refine ⟨ret_bool' ?_, by go_grown⟩
        rw [← HA.out]; simp [isName, small, HL.out]
      · go_ret
        refine ⟨ret_bool' ?_, by go_grown⟩
        rw [← HA.out]; simp [isName, small, HL.out]
end Go.Proofs.YtmklodgcbldndaaDoor
namespace Go.Proofs.YtmklodgcbldndaaDoor
open Go.RowKit Go.Proofs

/-- What is wrong with a value (P3). -/
def vchk (s n : Int) (t : List UInt8) : Int :=
  if s = 3 ∧ n = 0 then (if 100 < t.length then 2 else if Lib.validD t = true then 0 else 1)
  else if t = [] ∧ (s = 1 ∨ (s = 2 ∧ (n = 0 ∨ n = 1))) then 0 else 1
end Go.Proofs.YtmklodgcbldndaaDoor
