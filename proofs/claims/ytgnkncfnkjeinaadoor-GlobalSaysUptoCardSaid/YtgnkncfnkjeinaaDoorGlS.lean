/-
  Roles and the shape of a conversation's part: global.IsRole, labels, shaped and the reference's IsRole and talk.
-/
import Derived.Test.YtgnkncfnkjeinaaDoorM6
import Derived.Test.YtgnkncfnkjeinaaDoorM4
namespace Go.Proofs.YtgnkncfnkjeinaaDoor
open Go.RowKit Go.Proofs

set_option maxRecDepth 100000
set_option maxHeartbeats 1000000 in
theorem glabels_any (v : Value) (ls : List Str) (w : World) (hv : IsStrs w v ls) (hs : ∀ s ∈ ls, s.length ≤ 9223372036854775807) (hl : ls.length ≤ 9223372036854775807) :
    Calls Tryd.prog 131 #[v] w fun e w' => e = .returned (.bool (labelsOk ls)) ∧ Below w.heap.size w w' := by
  obtain ⟨A, cap, rfl, hc, hr⟩ := hv
  obtain ⟨ANS, hA⟩ : ∃ x, labelsOk ls = x := ⟨_, rfl⟩
  have HA := Lib.hid hA; rw [hA]; clear hA
  by_cases h1 : 1 ≤ ls.length ∧ ls.length ≤ 6
  · obtain ⟨b, off, rfl, hrow⟩ := hr (by omega)
    have HR := Lib.hid hrow; have HS := Lib.hid hs; clear hrow hr hs
    obtain ⟨L, hL⟩ : ∃ L, ls.length = L := ⟨_, rfl⟩
    have HL := Lib.hid hL
    rw [hL] at h1 hc ⊢; clear hL
    go_enter Tryd.func131, Tryd.ntmps131
    go_wp2_with fail
    go_loopw [15] (fun i wr => ∃ k : Nat, k ≤ L ∧ i = .int .i64 k ∧ Hid (okFrom none ls = okFrom (prev ls k) (ls.drop k)) ∧ Below w.heap.size w wr) (fun i _ => L - (intOf i).toNat)
    case atStart => exact ⟨0, by omega, rfl, by simp [prev, Hid], Below.refl _ _⟩
    case round =>
      obtain ⟨k, hk, rfl, hf, hbw⟩ := hrel
      by_cases hlt : k < L
      · obtain ⟨s, hs⟩ : ∃ s, ls[k]? = some s := ⟨_, List.getElem?_eq_getElem (by rw [HL.out]; exact hlt)⟩
        have HK := Lib.hid hs
        have hsl := HS.out s (List.mem_of_getElem? hs)
        have c0 : wr.cell? ⟨b, off + k, none⟩ = some (.string ⟨s.toArray⟩) := cell_keep (HR.out k s hs) hbw
        clear hs
        obtain ⟨B, hB⟩ : ∃ x, isName s = x := ⟨_, rfl⟩
        have HB := Lib.hid hB; clear hB
        cases B with
        | false =>
          go_wp2_with fail
          refine (isName_any s _ hsl).mono ?_; rw [HB.out]; rintro e w1 ⟨rfl, hb1⟩
          go_wp2_with fail
          go_ret
          refine ⟨ret_bool' ?_, chain hbw hb1⟩
          have := hf.out
          rw [ok_step HK.out, HB.out] at this
          rw [← HA.out]; simp [labelsOk, this]
        | true =>
          rcases Nat.eq_zero_or_pos k with h0 | h0
          · subst h0
            simp only [Nat.add_zero] at c0
            go_wp2_with fail
            refine (isName_any s _ hsl).mono ?_; rw [HB.out]; rintro e w1 ⟨rfl, hb1⟩
            go_wp2_with fail
            go_round
            case rel =>
              refine ⟨1, by omega, by simp, ?_, chain hbw hb1⟩
              have := hf.out
              rw [ok_step HK.out, HB.out] at this
              show okFrom none ls = _
              rw [this]
              simp [behind, prev]
            case measure => simp [intOf]; omega
          · obtain ⟨q, hq⟩ : ∃ s, ls[k - 1]? = some s := ⟨_, List.getElem?_eq_getElem (by rw [HL.out]; omega)⟩
            have HQ := Lib.hid hq
            have c1 : wr.cell? ⟨b, off + (k - 1), none⟩ = some (.string ⟨q.toArray⟩) := cell_keep (HR.out (k - 1) q hq) hbw
            have cs1 : (k : Int) - 1 = ((k - 1 : Nat) : Int) := by omega
            clear hq
            go_wp2_with fail
            refine (isName_any s _ hsl).mono ?_; rw [HB.out]; rintro e w1 ⟨rfl, hb1⟩
            have c2 : w1.cell? ⟨b, off + (k - 1), none⟩ = some (.string ⟨q.toArray⟩) := cell_keep c1 hb1
            go_wp2_with fail
            · go_ret
              refine ⟨ret_bool' ?_, chain hbw hb1⟩
              have := hf.out
              have h2 : behind (prev ls k) s = false := by
                have e : prev ls k = some q := by unfold prev; rw [if_neg (by omega), HQ.out]
                rw [e]
                rcases ‹Op.bytesLess s q = true ∨ (s == q) = true› with h | h <;> simp [behind, h]
              rw [ok_step HK.out, HB.out, h2] at this
              rw [← HA.out]; simp [labelsOk, this]
            · rename_i hcmp
              refine ⟨⟨k + 1, by omega, by simp, ?_, chain hbw hb1⟩, by simp [intOf]; omega⟩
              have := hf.out
              have h2 : behind (prev ls k) s = true := by
                have e : prev ls k = some q := by unfold prev; rw [if_neg (by omega), HQ.out]
                rw [e]
                simp [behind, hcmp.1, hcmp.2]
              rw [ok_step HK.out, HB.out, h2] at this
              show okFrom none ls = _
              rw [this]
              rfl
      · have hk' : k = L := by omega
        subst hk'
        go_wp2_with fail
        go_ret
        refine ⟨ret_bool' ?_, hbw⟩
        have := hf.out
        rw [← HA.out]
        unfold labelsOk
        rw [this, ← HL.out]
        simp [okFrom]
        rw [HL.out]
        exact h1
  · have hL : labelsOk ls = false := by
      unfold labelsOk
      rcases Nat.lt_or_ge ls.length 1 with h | h
      · simp [show ¬ 1 ≤ ls.length by omega]
      · simp [show ¬ ls.length ≤ 6 by omega]
    have HL := Lib.hid hL; clear hL hr
    go_enter Tryd.func131, Tryd.ntmps131
    go_wp2_with fail
    all_goals
      go_ret
      exact ⟨ret_bool' (by rw [← HA.out, HL.out]), by go_grown⟩

def isRole : Str → Bool
  | [x] => decide (97 ≤ x.toNat) && decide (x.toNat ≤ 104)
  | _ => false
def rolesW : List Str := [[97], [98], [99], [100], [101], [102], [103], [104]]
theorem role_mem (s : Str) : decide (s ∈ rolesW) = isRole s := by
  match s with
  | [] => decide
  | [x] =>
    have : ∀ n : Fin 256, decide ([UInt8.ofNat n.val] ∈ rolesW) = (decide (97 ≤ n.val) && decide (n.val ≤ 104)) := by decide +kernel
    have h := this ⟨x.toNat, x.toNat_lt⟩
    simpa [isRole] using h
  | x :: y :: r => simp [rolesW, isRole]
theorem isRole_len {s : Str} (h : isRole s = true) : s.length = 1 := by
  match s with
  | [] => simp [isRole] at h
  | [x] => rfl
  | x :: y :: r => simp [isRole] at h
theorem isRole_any (s : Str) (w : World) (hs : s.length ≤ 9223372036854775807) :
    Calls Tryd.prog 27 #[.string ⟨s.toArray⟩] w fun e w' => e = .returned (.bool (isRole s)) ∧ Below w.heap.size w w' := by
  by_cases h1 : s.length = 1
  · obtain ⟨x, rfl⟩ : ∃ x, s = [x] := List.length_eq_one_iff.1 h1
    clear h1 hs
    by_cases h97 : 97 ≤ x.toNat
    · have g97 : (97 : Int) ≤ (x.toNat : Int) := by omega
      have E : (⟨#[x]⟩ : ByteArray)[0]'(by show 0 < 1; decide) = x := rfl
      go_enter Tryd.func27, Tryd.ntmps27
      go_wp2_with fail
      all_goals
        go_ret
        exact ⟨ret_bool (by rw [Bool.eq_iff_iff]; simp [isRole]; omega), Below.refl _ _⟩
    · have g97 : ¬ (97 : Int) ≤ (x.toNat : Int) := by omega
      go_enter Tryd.func27, Tryd.ntmps27
      go_wp2_with fail
      go_ret
      exact ⟨ret_bool (by simp [isRole]; omega), Below.refl _ _⟩
  · have h1' : ((s.length : Int) == 1) = false := by rw [beq_eq_false_iff_ne]; omega
    have hf : isRole s = false := by
      match s with
      | [] => rfl
      | [x] => simp at h1
      | x :: y :: r => rfl
    rw [hf]
    clear hf h1
    go_enter Tryd.func27, Tryd.ntmps27
    go_wp2_with fail
    go_ret
    exact ⟨rfl, Below.refl _ _⟩
theorem roles_in (w : World) : IsStrs (w.alloc (.cells #[.string ⟨#[97]⟩, .string ⟨#[98]⟩, .string ⟨#[99]⟩, .string ⟨#[100]⟩, .string ⟨#[101]⟩, .string ⟨#[102]⟩, .string ⟨#[103]⟩, .string ⟨#[104]⟩] 9)) (.slice (some ⟨w.heap.size, 0, none⟩) 8 8) rolesW := by
  refine ⟨_, 8, rfl, by decide, fun _ => ⟨w.heap.size, 0, rfl, fun i s hi => ?_⟩⟩
  match i, hi with
  | 0, hi | 1, hi | 2, hi | 3, hi | 4, hi | 5, hi | 6, hi | 7, hi => simp [rolesW] at hi; subst hi; simp [go_sem]
  | i + 8, hi => simp [rolesW] at hi
theorem refIsRole_any (s : Str) (w : World) :
    Calls Tryd.prog 28 #[.string ⟨s.toArray⟩] w fun e w' => e = .returned (.bool (isRole s)) ∧ Below w.heap.size w w' := by
  rw [← role_mem]
  have hcall := contains_any (roles_in w) (by decide) s
  generalize decide (s ∈ rolesW) = B at hcall ⊢
  go_enter Tryd.func28, Tryd.ntmps28
  go_wp2_with fail
  refine hcall.mono ?_; clear hcall
  rintro e w1 ⟨rfl, rfl⟩
  go_wp2_with fail
  go_ret
  exact ⟨rfl, by go_grown⟩

/-- Are the roles right for the kind? -/
def pairOk (f o : Str) : Bool := isRole f && isRole o && !(f == o)
def noneOk (f o : Str) : Bool := f.isEmpty && o.isEmpty
def talkOk (k : Int) (f o : Str) : Bool := if k = 2 ∨ k = 6 then pairOk f o else if k = 1 ∨ k = 8 ∨ k = 9 then noneOk f o else false
def gShape (k : Int) (f o : Str) (s : Int) (n : Str) (ls : List Str) (c : Nat) : Bool := talkOk k f o && shapeOk k s n ls c

set_option maxHeartbeats 4000000 in
theorem gshaped_o (k : Int) (h1 : k ≠ 1) (h2 : k ≠ 2) (h6 : k ≠ 6) (h8 : k ≠ 8) (h9 : k ≠ 9) (f o : Str) (s : Int) (n : Str) (ls : List Str) (kids : Nat) (A : Option Addr) (cap : Nat) (A' : Option Addr) (cap' : Nat) (w : World) (hf : f.length ≤ 9223372036854775807) (ho : o.length ≤ 9223372036854775807) (hn : n.length ≤ 9223372036854775807) (hl : ls.length ≤ 9223372036854775807) (hs : ∀ s ∈ ls, s.length ≤ 9223372036854775807) (hk : kids ≤ 1000000000000) (hv : IsStrs w (.slice A ls.length cap) ls) :
    Calls Tryd.prog 103 #[.agg #[.int .i64 k, .string ⟨f.toArray⟩, .string ⟨o.toArray⟩, .int .i64 s, .string ⟨n.toArray⟩, .slice A ls.length cap, .slice A' kids cap']] w fun e w' => e = .returned (.bool (gShape k f o s n ls kids)) ∧ Below w.heap.size w w' := by
  have e : gShape k f o s n ls kids = false := by simp [gShape, talkOk, h1, h2, h6, h8, h9]
  rw [e]
  have g1 : (k == 1) = false := by simpa using h1
  have g2 : (k == 2) = false := by simpa using h2
  have g6 : (k == 6) = false := by simpa using h6
  have g8 : (k == 8) = false := by simpa using h8
  have g9 : (k == 9) = false := by simpa using h9
  go_enter Tryd.func103, Tryd.ntmps103
  go_wp2_with fail
  go_ret
  exact ⟨rfl, by go_grown⟩

set_option maxHeartbeats 4000000 in
theorem gshaped_1 (f o : Str) (s : Int) (n : Str) (ls : List Str) (kids : Nat) (A : Option Addr) (cap : Nat) (A' : Option Addr) (cap' : Nat) (w : World) (hf : f.length ≤ 9223372036854775807) (ho : o.length ≤ 9223372036854775807) (hn : n.length ≤ 9223372036854775807) (hl : ls.length ≤ 9223372036854775807) (hs : ∀ s ∈ ls, s.length ≤ 9223372036854775807) (hk : kids ≤ 1000000000000) (hv : IsStrs w (.slice A ls.length cap) ls) :
    Calls Tryd.prog 103 #[.agg #[.int .i64 1, .string ⟨f.toArray⟩, .string ⟨o.toArray⟩, .int .i64 s, .string ⟨n.toArray⟩, .slice A ls.length cap, .slice A' kids cap']] w fun e w' => e = .returned (.bool (gShape 1 f o s n ls kids)) ∧ Below w.heap.size w w' := by
  have HV := Lib.hid hv
  have HS := Lib.hid hs; clear hs
  obtain ⟨L, hL⟩ : ∃ L, ls.length = L := ⟨_, rfl⟩
  have HL := Lib.hid hL
  obtain ⟨B, hB⟩ : ∃ x, labelsOk ls = x := ⟨_, rfl⟩
  have HB := Lib.hid hB
  obtain ⟨C, hC⟩ : ∃ x, isVar n = x := ⟨_, rfl⟩
  have HC := Lib.hid hC
  obtain ⟨R1, hR1⟩ : ∃ x, isRole f = x := ⟨_, rfl⟩
  have HR1 := Lib.hid hR1
  obtain ⟨R2, hR2⟩ : ∃ x, isRole o = x := ⟨_, rfl⟩
  have HR2 := Lib.hid hR2
  obtain ⟨ANS, hA⟩ : ∃ x, gShape 1 f o s n ls kids = x := ⟨_, rfl⟩
  rw [hA]
  unfold gShape talkOk pairOk noneOk shapeOk at hA
  rw [hL, hB, hR1, hR2] at hA
  have HA := Lib.hid hA
  rw [hL] at hl HV hv ⊢; clear hL hA hB hC hR1 hR2 hv
  skip
  all_goals
    go_enter Tryd.func103, Tryd.ntmps103
    go_wp2_with fail
    all_goals
      go_ret
      refine ⟨ret_bool' ?_, by first | (exact chain (by go_grown) hb1) | go_grown⟩
      rw [← HA.out]
      have hC := HC.out
      first | (simp [shapeN, *]; done) | (simp [shapeN, *]; omega) | (rw [Bool.eq_iff_iff]; simp [shapeN, *]; done) | (rw [Bool.eq_iff_iff]; simp [shapeN, *]; omega)

set_option maxHeartbeats 4000000 in
theorem gshaped_8 (f o : Str) (s : Int) (n : Str) (ls : List Str) (kids : Nat) (A : Option Addr) (cap : Nat) (A' : Option Addr) (cap' : Nat) (w : World) (hf : f.length ≤ 9223372036854775807) (ho : o.length ≤ 9223372036854775807) (hn : n.length ≤ 9223372036854775807) (hl : ls.length ≤ 9223372036854775807) (hs : ∀ s ∈ ls, s.length ≤ 9223372036854775807) (hk : kids ≤ 1000000000000) (hv : IsStrs w (.slice A ls.length cap) ls) :
    Calls Tryd.prog 103 #[.agg #[.int .i64 8, .string ⟨f.toArray⟩, .string ⟨o.toArray⟩, .int .i64 s, .string ⟨n.toArray⟩, .slice A ls.length cap, .slice A' kids cap']] w fun e w' => e = .returned (.bool (gShape 8 f o s n ls kids)) ∧ Below w.heap.size w w' := by
  have HV := Lib.hid hv
  have HS := Lib.hid hs; clear hs
  obtain ⟨L, hL⟩ : ∃ L, ls.length = L := ⟨_, rfl⟩
  have HL := Lib.hid hL
  obtain ⟨B, hB⟩ : ∃ x, labelsOk ls = x := ⟨_, rfl⟩
  have HB := Lib.hid hB
  obtain ⟨C, hC⟩ : ∃ x, isVar n = x := ⟨_, rfl⟩
  have HC := Lib.hid hC
  obtain ⟨R1, hR1⟩ : ∃ x, isRole f = x := ⟨_, rfl⟩
  have HR1 := Lib.hid hR1
  obtain ⟨R2, hR2⟩ : ∃ x, isRole o = x := ⟨_, rfl⟩
  have HR2 := Lib.hid hR2
  obtain ⟨ANS, hA⟩ : ∃ x, gShape 8 f o s n ls kids = x := ⟨_, rfl⟩
  rw [hA]
  unfold gShape talkOk pairOk noneOk shapeOk at hA
  rw [hL, hB, hR1, hR2] at hA
  have HA := Lib.hid hA
  rw [hL] at hl HV hv ⊢; clear hL hA hB hC hR1 hR2 hv
  cases C
  all_goals
    go_enter Tryd.func103, Tryd.ntmps103
    go_wp2_with (go_at_call 22; go_must (refine (isVar_any n _ hn).mono ?_; rw [HC.out]; rintro e w1 ⟨rfl, hb1⟩; obtain ⟨hc1, hf1, hz1⟩ := bcell hb1))
    all_goals
      go_ret
      refine ⟨ret_bool' ?_, by first | (exact chain (by go_grown) hb1) | go_grown⟩
      rw [← HA.out]
      have hC := HC.out
      first | (simp [shapeN, *]; done) | (simp [shapeN, *]; omega) | (rw [Bool.eq_iff_iff]; simp [shapeN, *]; done) | (rw [Bool.eq_iff_iff]; simp [shapeN, *]; omega)

set_option maxHeartbeats 4000000 in
theorem gshaped_9 (f o : Str) (s : Int) (n : Str) (ls : List Str) (kids : Nat) (A : Option Addr) (cap : Nat) (A' : Option Addr) (cap' : Nat) (w : World) (hf : f.length ≤ 9223372036854775807) (ho : o.length ≤ 9223372036854775807) (hn : n.length ≤ 9223372036854775807) (hl : ls.length ≤ 9223372036854775807) (hs : ∀ s ∈ ls, s.length ≤ 9223372036854775807) (hk : kids ≤ 1000000000000) (hv : IsStrs w (.slice A ls.length cap) ls) :
    Calls Tryd.prog 103 #[.agg #[.int .i64 9, .string ⟨f.toArray⟩, .string ⟨o.toArray⟩, .int .i64 s, .string ⟨n.toArray⟩, .slice A ls.length cap, .slice A' kids cap']] w fun e w' => e = .returned (.bool (gShape 9 f o s n ls kids)) ∧ Below w.heap.size w w' := by
  have HV := Lib.hid hv
  have HS := Lib.hid hs; clear hs
  obtain ⟨L, hL⟩ : ∃ L, ls.length = L := ⟨_, rfl⟩
  have HL := Lib.hid hL
  obtain ⟨B, hB⟩ : ∃ x, labelsOk ls = x := ⟨_, rfl⟩
  have HB := Lib.hid hB
  obtain ⟨C, hC⟩ : ∃ x, isVar n = x := ⟨_, rfl⟩
  have HC := Lib.hid hC
  obtain ⟨R1, hR1⟩ : ∃ x, isRole f = x := ⟨_, rfl⟩
  have HR1 := Lib.hid hR1
  obtain ⟨R2, hR2⟩ : ∃ x, isRole o = x := ⟨_, rfl⟩
  have HR2 := Lib.hid hR2
  obtain ⟨ANS, hA⟩ : ∃ x, gShape 9 f o s n ls kids = x := ⟨_, rfl⟩
  rw [hA]
  unfold gShape talkOk pairOk noneOk shapeOk at hA
  rw [hL, hB, hR1, hR2] at hA
  have HA := Lib.hid hA
  rw [hL] at hl HV hv ⊢; clear hL hA hB hC hR1 hR2 hv
  cases C
  all_goals
    go_enter Tryd.func103, Tryd.ntmps103
    go_wp2_with (go_at_call 22; go_must (refine (isVar_any n _ hn).mono ?_; rw [HC.out]; rintro e w1 ⟨rfl, hb1⟩; obtain ⟨hc1, hf1, hz1⟩ := bcell hb1))
    all_goals
      go_ret
      refine ⟨ret_bool' ?_, by first | (exact chain (by go_grown) hb1) | go_grown⟩
      rw [← HA.out]
      have hC := HC.out
      first | (simp [shapeN, *]; done) | (simp [shapeN, *]; omega) | (rw [Bool.eq_iff_iff]; simp [shapeN, *]; done) | (rw [Bool.eq_iff_iff]; simp [shapeN, *]; omega)

set_option maxHeartbeats 4000000 in
theorem gshaped_2 (f o : Str) (s : Int) (n : Str) (ls : List Str) (kids : Nat) (A : Option Addr) (cap : Nat) (A' : Option Addr) (cap' : Nat) (w : World) (hf : f.length ≤ 9223372036854775807) (ho : o.length ≤ 9223372036854775807) (hn : n.length ≤ 9223372036854775807) (hl : ls.length ≤ 9223372036854775807) (hs : ∀ s ∈ ls, s.length ≤ 9223372036854775807) (hk : kids ≤ 1000000000000) (hv : IsStrs w (.slice A ls.length cap) ls) :
    Calls Tryd.prog 103 #[.agg #[.int .i64 2, .string ⟨f.toArray⟩, .string ⟨o.toArray⟩, .int .i64 s, .string ⟨n.toArray⟩, .slice A ls.length cap, .slice A' kids cap']] w fun e w' => e = .returned (.bool (gShape 2 f o s n ls kids)) ∧ Below w.heap.size w w' := by
  have HV := Lib.hid hv
  have HS := Lib.hid hs; clear hs
  obtain ⟨L, hL⟩ : ∃ L, ls.length = L := ⟨_, rfl⟩
  have HL := Lib.hid hL
  obtain ⟨B, hB⟩ : ∃ x, labelsOk ls = x := ⟨_, rfl⟩
  have HB := Lib.hid hB
  obtain ⟨C, hC⟩ : ∃ x, isVar n = x := ⟨_, rfl⟩
  have HC := Lib.hid hC
  obtain ⟨R1, hR1⟩ : ∃ x, isRole f = x := ⟨_, rfl⟩
  have HR1 := Lib.hid hR1
  obtain ⟨R2, hR2⟩ : ∃ x, isRole o = x := ⟨_, rfl⟩
  have HR2 := Lib.hid hR2
  obtain ⟨ANS, hA⟩ : ∃ x, gShape 2 f o s n ls kids = x := ⟨_, rfl⟩
  rw [hA]
  unfold gShape talkOk pairOk noneOk shapeOk at hA
  rw [hL, hB, hR1, hR2] at hA
  have HA := Lib.hid hA
  rw [hL] at hl HV hv ⊢; clear hL hA hB hC hR1 hR2 hv
  by_cases g : kids = 1 ∧ 1 ≤ s ∧ s ≤ 3 ∧ n = [] ∧ L = 0
  · obtain ⟨rfl, g2, g3, rfl, rfl⟩ := g
    cases R1 with
    | false =>
      go_enter Tryd.func103, Tryd.ntmps103
      go_wp2_with fail
      have hb0 : Below w.heap.size w (w.alloc (.cells #[.int .i64 2, .string ⟨f.toArray⟩, .string ⟨o.toArray⟩, .int .i64 s, .string ⟨#[]⟩, .slice A 0 cap, .slice A' 1 cap'] 52)) := by go_grown
      have XB := new_gval w (.mk 2 f o s ([] : Str) ls []) (.slice A 0 cap) (.slice A' 1 cap') 52
      simp only [Gl.kind, Gl.frm, Gl.rcv, Gl.sort, Gl.name] at XB
      generalize w.alloc (.cells #[.int .i64 2, .string ⟨f.toArray⟩, .string ⟨o.toArray⟩, .int .i64 s, .string ⟨#[]⟩, .slice A 0 cap, .slice A' 1 cap'] 52) = w0 at hb0 XB ⊢
      obtain ⟨x0, x1, x2, x3, x4, x5, x6, x7, x8⟩ := id XB
      simp only [Gl.kind, Gl.frm, Gl.rcv, Gl.sort, Gl.name] at x0 x1 x2 x3 x4
      refine (isRole_any f _ hf).mono ?_; rw [HR1.out]; rintro e w1 ⟨rfl, hb1⟩
      replace XB := XB.keep hb1 XB.lt
      replace hb0 := chain hb0 hb1
      clear hb1
      clear x0 x1 x2 x3 x4 x5 x6 x7 x8
      obtain ⟨x0, x1, x2, x3, x4, x5, x6, x7, x8⟩ := id XB
      simp only [Gl.kind, Gl.frm, Gl.rcv, Gl.sort, Gl.name] at x0 x1 x2 x3 x4
      go_wp2_with fail
      go_ret
      exact ⟨ret_bool' (by rw [← HA.out]; simp [shapeN, *]), by first | exact hb0 | exact below_drewN hb0 _⟩
    | true =>
      cases R2 with
      | false =>
        go_enter Tryd.func103, Tryd.ntmps103
        go_wp2_with fail
        have hb0 : Below w.heap.size w (w.alloc (.cells #[.int .i64 2, .string ⟨f.toArray⟩, .string ⟨o.toArray⟩, .int .i64 s, .string ⟨#[]⟩, .slice A 0 cap, .slice A' 1 cap'] 52)) := by go_grown
        have XB := new_gval w (.mk 2 f o s ([] : Str) ls []) (.slice A 0 cap) (.slice A' 1 cap') 52
        simp only [Gl.kind, Gl.frm, Gl.rcv, Gl.sort, Gl.name] at XB
        generalize w.alloc (.cells #[.int .i64 2, .string ⟨f.toArray⟩, .string ⟨o.toArray⟩, .int .i64 s, .string ⟨#[]⟩, .slice A 0 cap, .slice A' 1 cap'] 52) = w0 at hb0 XB ⊢
        obtain ⟨x0, x1, x2, x3, x4, x5, x6, x7, x8⟩ := id XB
        simp only [Gl.kind, Gl.frm, Gl.rcv, Gl.sort, Gl.name] at x0 x1 x2 x3 x4
        refine (isRole_any f _ hf).mono ?_; rw [HR1.out]; rintro e w1 ⟨rfl, hb1⟩
        replace XB := XB.keep hb1 XB.lt
        replace hb0 := chain hb0 hb1
        clear hb1
        clear x0 x1 x2 x3 x4 x5 x6 x7 x8
        obtain ⟨x0, x1, x2, x3, x4, x5, x6, x7, x8⟩ := id XB
        simp only [Gl.kind, Gl.frm, Gl.rcv, Gl.sort, Gl.name] at x0 x1 x2 x3 x4
        go_wp2_with fail
        refine (isRole_any o _ ho).mono ?_; rw [HR2.out]; rintro e w1 ⟨rfl, hb1⟩
        replace XB := XB.keep hb1 XB.lt
        replace hb0 := chain hb0 hb1
        clear hb1
        clear x0 x1 x2 x3 x4 x5 x6 x7 x8
        obtain ⟨x0, x1, x2, x3, x4, x5, x6, x7, x8⟩ := id XB
        simp only [Gl.kind, Gl.frm, Gl.rcv, Gl.sort, Gl.name] at x0 x1 x2 x3 x4
        go_wp2_with fail
        go_ret
        exact ⟨ret_bool' (by rw [← HA.out]; simp [shapeN, *]), by first | exact hb0 | exact below_drewN hb0 _⟩
      | true =>
        by_cases hfo : f = o
        · subst hfo
          have hq : (f == f) = true := by simp
          go_enter Tryd.func103, Tryd.ntmps103
          go_wp2_with fail
          have hb0 : Below w.heap.size w (w.alloc (.cells #[.int .i64 2, .string ⟨f.toArray⟩, .string ⟨f.toArray⟩, .int .i64 s, .string ⟨#[]⟩, .slice A 0 cap, .slice A' 1 cap'] 52)) := by go_grown
          have XB := new_gval w (.mk 2 f f s ([] : Str) ls []) (.slice A 0 cap) (.slice A' 1 cap') 52
          simp only [Gl.kind, Gl.frm, Gl.rcv, Gl.sort, Gl.name] at XB
          generalize w.alloc (.cells #[.int .i64 2, .string ⟨f.toArray⟩, .string ⟨f.toArray⟩, .int .i64 s, .string ⟨#[]⟩, .slice A 0 cap, .slice A' 1 cap'] 52) = w0 at hb0 XB ⊢
          obtain ⟨x0, x1, x2, x3, x4, x5, x6, x7, x8⟩ := id XB
          simp only [Gl.kind, Gl.frm, Gl.rcv, Gl.sort, Gl.name] at x0 x1 x2 x3 x4
          refine (isRole_any f _ hf).mono ?_; rw [HR1.out]; rintro e w1 ⟨rfl, hb1⟩
          replace XB := XB.keep hb1 XB.lt
          replace hb0 := chain hb0 hb1
          clear hb1
          clear x0 x1 x2 x3 x4 x5 x6 x7 x8
          obtain ⟨x0, x1, x2, x3, x4, x5, x6, x7, x8⟩ := id XB
          simp only [Gl.kind, Gl.frm, Gl.rcv, Gl.sort, Gl.name] at x0 x1 x2 x3 x4
          go_wp2_with fail
          refine (isRole_any f _ ho).mono ?_; rw [HR2.out]; rintro e w1 ⟨rfl, hb1⟩
          replace XB := XB.keep hb1 XB.lt
          replace hb0 := chain hb0 hb1
          clear hb1
          clear x0 x1 x2 x3 x4 x5 x6 x7 x8
          obtain ⟨x0, x1, x2, x3, x4, x5, x6, x7, x8⟩ := id XB
          simp only [Gl.kind, Gl.frm, Gl.rcv, Gl.sort, Gl.name] at x0 x1 x2 x3 x4
          go_wp2_with fail
          go_ret
          exact ⟨ret_bool' (by rw [← HA.out]; simp [shapeN, *]), by first | exact hb0 | exact below_drewN hb0 _⟩
        · have hq : (f == o) = false := by simpa using hfo
          go_enter Tryd.func103, Tryd.ntmps103
          go_wp2_with fail
          have hb0 : Below w.heap.size w (w.alloc (.cells #[.int .i64 2, .string ⟨f.toArray⟩, .string ⟨o.toArray⟩, .int .i64 s, .string ⟨#[]⟩, .slice A 0 cap, .slice A' 1 cap'] 52)) := by go_grown
          have XB := new_gval w (.mk 2 f o s ([] : Str) ls []) (.slice A 0 cap) (.slice A' 1 cap') 52
          simp only [Gl.kind, Gl.frm, Gl.rcv, Gl.sort, Gl.name] at XB
          generalize w.alloc (.cells #[.int .i64 2, .string ⟨f.toArray⟩, .string ⟨o.toArray⟩, .int .i64 s, .string ⟨#[]⟩, .slice A 0 cap, .slice A' 1 cap'] 52) = w0 at hb0 XB ⊢
          obtain ⟨x0, x1, x2, x3, x4, x5, x6, x7, x8⟩ := id XB
          simp only [Gl.kind, Gl.frm, Gl.rcv, Gl.sort, Gl.name] at x0 x1 x2 x3 x4
          refine (isRole_any f _ hf).mono ?_; rw [HR1.out]; rintro e w1 ⟨rfl, hb1⟩
          replace XB := XB.keep hb1 XB.lt
          replace hb0 := chain hb0 hb1
          clear hb1
          clear x0 x1 x2 x3 x4 x5 x6 x7 x8
          obtain ⟨x0, x1, x2, x3, x4, x5, x6, x7, x8⟩ := id XB
          simp only [Gl.kind, Gl.frm, Gl.rcv, Gl.sort, Gl.name] at x0 x1 x2 x3 x4
          go_wp2_with fail
          refine (isRole_any o _ ho).mono ?_; rw [HR2.out]; rintro e w1 ⟨rfl, hb1⟩
          replace XB := XB.keep hb1 XB.lt
          replace hb0 := chain hb0 hb1
          clear hb1
          clear x0 x1 x2 x3 x4 x5 x6 x7 x8
          obtain ⟨x0, x1, x2, x3, x4, x5, x6, x7, x8⟩ := id XB
          simp only [Gl.kind, Gl.frm, Gl.rcv, Gl.sort, Gl.name] at x0 x1 x2 x3 x4
          go_wp2_with fail
          go_ret
          exact ⟨ret_bool' (by rw [← HA.out]; simp [shapeN, *]), by first | exact hb0 | exact below_drewN hb0 _⟩
  · skip
    go_enter Tryd.func103, Tryd.ntmps103
    go_wp2_with fail
    all_goals first
      | (go_ret; refine ⟨ret_bool' ?_, by go_grown⟩; rw [← HA.out]; first | (simp [shapeN, *]; done) | (simp [shapeN, *]; omega))
      | (exfalso; apply g; simp_all; done)
      | (exfalso; apply g; simp_all; omega)

set_option maxHeartbeats 4000000 in
theorem gshaped_6 (f o : Str) (s : Int) (n : Str) (ls : List Str) (kids : Nat) (A : Option Addr) (cap : Nat) (A' : Option Addr) (cap' : Nat) (w : World) (hf : f.length ≤ 9223372036854775807) (ho : o.length ≤ 9223372036854775807) (hn : n.length ≤ 9223372036854775807) (hl : ls.length ≤ 9223372036854775807) (hs : ∀ s ∈ ls, s.length ≤ 9223372036854775807) (hk : kids ≤ 1000000000000) (hv : IsStrs w (.slice A ls.length cap) ls) :
    Calls Tryd.prog 103 #[.agg #[.int .i64 6, .string ⟨f.toArray⟩, .string ⟨o.toArray⟩, .int .i64 s, .string ⟨n.toArray⟩, .slice A ls.length cap, .slice A' kids cap']] w fun e w' => e = .returned (.bool (gShape 6 f o s n ls kids)) ∧ Below w.heap.size w w' := by
  have HV := Lib.hid hv
  have HS := Lib.hid hs; clear hs
  obtain ⟨L, hL⟩ : ∃ L, ls.length = L := ⟨_, rfl⟩
  have HL := Lib.hid hL
  obtain ⟨B, hB⟩ : ∃ x, labelsOk ls = x := ⟨_, rfl⟩
  have HB := Lib.hid hB
  obtain ⟨C, hC⟩ : ∃ x, isVar n = x := ⟨_, rfl⟩
  have HC := Lib.hid hC
  obtain ⟨R1, hR1⟩ : ∃ x, isRole f = x := ⟨_, rfl⟩
  have HR1 := Lib.hid hR1
  obtain ⟨R2, hR2⟩ : ∃ x, isRole o = x := ⟨_, rfl⟩
  have HR2 := Lib.hid hR2
  obtain ⟨ANS, hA⟩ : ∃ x, gShape 6 f o s n ls kids = x := ⟨_, rfl⟩
  rw [hA]
  unfold gShape talkOk pairOk noneOk shapeOk at hA
  rw [hL, hB, hR1, hR2] at hA
  have HA := Lib.hid hA
  rw [hL] at hl HV hv ⊢; clear hL hA hB hC hR1 hR2 hv
  by_cases g : kids = L ∧ s = 0 ∧ n = []
  · obtain ⟨rfl, rfl, rfl⟩ := g
    cases B with
    | false =>
      go_enter Tryd.func103, Tryd.ntmps103
      go_wp2_with fail
      have hb0 : Below w.heap.size w (w.alloc (.cells #[.int .i64 6, .string ⟨f.toArray⟩, .string ⟨o.toArray⟩, .int .i64 0, .string ⟨#[]⟩, .slice A kids cap, .slice A' kids cap'] 52)) := by go_grown
      have XB := new_gval w (.mk 6 f o 0 ([] : Str) ls []) (.slice A kids cap) (.slice A' kids cap') 52
      simp only [Gl.kind, Gl.frm, Gl.rcv, Gl.sort, Gl.name] at XB
      generalize w.alloc (.cells #[.int .i64 6, .string ⟨f.toArray⟩, .string ⟨o.toArray⟩, .int .i64 0, .string ⟨#[]⟩, .slice A kids cap, .slice A' kids cap'] 52) = w0 at hb0 XB ⊢
      obtain ⟨x0, x1, x2, x3, x4, x5, x6, x7, x8⟩ := id XB
      simp only [Gl.kind, Gl.frm, Gl.rcv, Gl.sort, Gl.name] at x0 x1 x2 x3 x4
      go_quiet (fail)
      replace XB := XB.drewN nq
      replace hb0 := below_drewN hb0 nq
      clear x0 x1 x2 x3 x4 x5 x6 x7 x8
      obtain ⟨x0, x1, x2, x3, x4, x5, x6, x7, x8⟩ := id XB
      simp only [Gl.kind, Gl.frm, Gl.rcv, Gl.sort, Gl.name] at x0 x1 x2 x3 x4
      go_wp2_with fail
      refine (glabels_any _ ls _ (HV.out.keep hb0) HS.out (by rw [HL.out]; exact hl)).mono ?_; rw [HB.out]; rintro e w1 ⟨rfl, hb1⟩
      replace XB := XB.keep hb1 XB.lt
      replace hb0 := chain hb0 hb1
      clear hb1
      clear x0 x1 x2 x3 x4 x5 x6 x7 x8
      obtain ⟨x0, x1, x2, x3, x4, x5, x6, x7, x8⟩ := id XB
      simp only [Gl.kind, Gl.frm, Gl.rcv, Gl.sort, Gl.name] at x0 x1 x2 x3 x4
      go_wp2_with fail
      go_ret
      exact ⟨ret_bool' (by rw [← HA.out]; simp [shapeN, *]), by first | exact hb0 | exact below_drewN hb0 _⟩
    | true =>
      cases R1 with
      | false =>
        go_enter Tryd.func103, Tryd.ntmps103
        go_wp2_with fail
        have hb0 : Below w.heap.size w (w.alloc (.cells #[.int .i64 6, .string ⟨f.toArray⟩, .string ⟨o.toArray⟩, .int .i64 0, .string ⟨#[]⟩, .slice A kids cap, .slice A' kids cap'] 52)) := by go_grown
        have XB := new_gval w (.mk 6 f o 0 ([] : Str) ls []) (.slice A kids cap) (.slice A' kids cap') 52
        simp only [Gl.kind, Gl.frm, Gl.rcv, Gl.sort, Gl.name] at XB
        generalize w.alloc (.cells #[.int .i64 6, .string ⟨f.toArray⟩, .string ⟨o.toArray⟩, .int .i64 0, .string ⟨#[]⟩, .slice A kids cap, .slice A' kids cap'] 52) = w0 at hb0 XB ⊢
        obtain ⟨x0, x1, x2, x3, x4, x5, x6, x7, x8⟩ := id XB
        simp only [Gl.kind, Gl.frm, Gl.rcv, Gl.sort, Gl.name] at x0 x1 x2 x3 x4
        go_quiet (fail)
        replace XB := XB.drewN nq
        replace hb0 := below_drewN hb0 nq
        clear x0 x1 x2 x3 x4 x5 x6 x7 x8
        obtain ⟨x0, x1, x2, x3, x4, x5, x6, x7, x8⟩ := id XB
        simp only [Gl.kind, Gl.frm, Gl.rcv, Gl.sort, Gl.name] at x0 x1 x2 x3 x4
        go_wp2_with fail
        refine (glabels_any _ ls _ (HV.out.keep hb0) HS.out (by rw [HL.out]; exact hl)).mono ?_; rw [HB.out]; rintro e w1 ⟨rfl, hb1⟩
        replace XB := XB.keep hb1 XB.lt
        replace hb0 := chain hb0 hb1
        clear hb1
        clear x0 x1 x2 x3 x4 x5 x6 x7 x8
        obtain ⟨x0, x1, x2, x3, x4, x5, x6, x7, x8⟩ := id XB
        simp only [Gl.kind, Gl.frm, Gl.rcv, Gl.sort, Gl.name] at x0 x1 x2 x3 x4
        go_wp2_with fail
        refine (isRole_any f _ hf).mono ?_; rw [HR1.out]; rintro e w1 ⟨rfl, hb1⟩
        replace XB := XB.keep hb1 XB.lt
        replace hb0 := chain hb0 hb1
        clear hb1
        clear x0 x1 x2 x3 x4 x5 x6 x7 x8
        obtain ⟨x0, x1, x2, x3, x4, x5, x6, x7, x8⟩ := id XB
        simp only [Gl.kind, Gl.frm, Gl.rcv, Gl.sort, Gl.name] at x0 x1 x2 x3 x4
        go_wp2_with fail
        go_ret
        exact ⟨ret_bool' (by rw [← HA.out]; simp [shapeN, *]), by first | exact hb0 | exact below_drewN hb0 _⟩
      | true =>
        cases R2 with
        | false =>
          go_enter Tryd.func103, Tryd.ntmps103
          go_wp2_with fail
          have hb0 : Below w.heap.size w (w.alloc (.cells #[.int .i64 6, .string ⟨f.toArray⟩, .string ⟨o.toArray⟩, .int .i64 0, .string ⟨#[]⟩, .slice A kids cap, .slice A' kids cap'] 52)) := by go_grown
          have XB := new_gval w (.mk 6 f o 0 ([] : Str) ls []) (.slice A kids cap) (.slice A' kids cap') 52
          simp only [Gl.kind, Gl.frm, Gl.rcv, Gl.sort, Gl.name] at XB
          generalize w.alloc (.cells #[.int .i64 6, .string ⟨f.toArray⟩, .string ⟨o.toArray⟩, .int .i64 0, .string ⟨#[]⟩, .slice A kids cap, .slice A' kids cap'] 52) = w0 at hb0 XB ⊢
          obtain ⟨x0, x1, x2, x3, x4, x5, x6, x7, x8⟩ := id XB
          simp only [Gl.kind, Gl.frm, Gl.rcv, Gl.sort, Gl.name] at x0 x1 x2 x3 x4
          go_quiet (fail)
          replace XB := XB.drewN nq
          replace hb0 := below_drewN hb0 nq
          clear x0 x1 x2 x3 x4 x5 x6 x7 x8
          obtain ⟨x0, x1, x2, x3, x4, x5, x6, x7, x8⟩ := id XB
          simp only [Gl.kind, Gl.frm, Gl.rcv, Gl.sort, Gl.name] at x0 x1 x2 x3 x4
          go_wp2_with fail
          refine (glabels_any _ ls _ (HV.out.keep hb0) HS.out (by rw [HL.out]; exact hl)).mono ?_; rw [HB.out]; rintro e w1 ⟨rfl, hb1⟩
          replace XB := XB.keep hb1 XB.lt
          replace hb0 := chain hb0 hb1
          clear hb1
          clear x0 x1 x2 x3 x4 x5 x6 x7 x8
          obtain ⟨x0, x1, x2, x3, x4, x5, x6, x7, x8⟩ := id XB
          simp only [Gl.kind, Gl.frm, Gl.rcv, Gl.sort, Gl.name] at x0 x1 x2 x3 x4
          go_wp2_with fail
          refine (isRole_any f _ hf).mono ?_; rw [HR1.out]; rintro e w1 ⟨rfl, hb1⟩
          replace XB := XB.keep hb1 XB.lt
          replace hb0 := chain hb0 hb1
          clear hb1
          clear x0 x1 x2 x3 x4 x5 x6 x7 x8
          obtain ⟨x0, x1, x2, x3, x4, x5, x6, x7, x8⟩ := id XB
          simp only [Gl.kind, Gl.frm, Gl.rcv, Gl.sort, Gl.name] at x0 x1 x2 x3 x4
          go_wp2_with fail
          refine (isRole_any o _ ho).mono ?_; rw [HR2.out]; rintro e w1 ⟨rfl, hb1⟩
          replace XB := XB.keep hb1 XB.lt
          replace hb0 := chain hb0 hb1
          clear hb1
          clear x0 x1 x2 x3 x4 x5 x6 x7 x8
          obtain ⟨x0, x1, x2, x3, x4, x5, x6, x7, x8⟩ := id XB
          simp only [Gl.kind, Gl.frm, Gl.rcv, Gl.sort, Gl.name] at x0 x1 x2 x3 x4
          go_wp2_with fail
          go_ret
          exact ⟨ret_bool' (by rw [← HA.out]; simp [shapeN, *]), by first | exact hb0 | exact below_drewN hb0 _⟩
        | true =>
          by_cases hfo : f = o
          · subst hfo
            have hq : (f == f) = true := by simp
            go_enter Tryd.func103, Tryd.ntmps103
            go_wp2_with fail
            have hb0 : Below w.heap.size w (w.alloc (.cells #[.int .i64 6, .string ⟨f.toArray⟩, .string ⟨f.toArray⟩, .int .i64 0, .string ⟨#[]⟩, .slice A kids cap, .slice A' kids cap'] 52)) := by go_grown
            have XB := new_gval w (.mk 6 f f 0 ([] : Str) ls []) (.slice A kids cap) (.slice A' kids cap') 52
            simp only [Gl.kind, Gl.frm, Gl.rcv, Gl.sort, Gl.name] at XB
            generalize w.alloc (.cells #[.int .i64 6, .string ⟨f.toArray⟩, .string ⟨f.toArray⟩, .int .i64 0, .string ⟨#[]⟩, .slice A kids cap, .slice A' kids cap'] 52) = w0 at hb0 XB ⊢
            obtain ⟨x0, x1, x2, x3, x4, x5, x6, x7, x8⟩ := id XB
            simp only [Gl.kind, Gl.frm, Gl.rcv, Gl.sort, Gl.name] at x0 x1 x2 x3 x4
            go_quiet (fail)
            replace XB := XB.drewN nq
            replace hb0 := below_drewN hb0 nq
            clear x0 x1 x2 x3 x4 x5 x6 x7 x8
            obtain ⟨x0, x1, x2, x3, x4, x5, x6, x7, x8⟩ := id XB
            simp only [Gl.kind, Gl.frm, Gl.rcv, Gl.sort, Gl.name] at x0 x1 x2 x3 x4
            go_wp2_with fail
            refine (glabels_any _ ls _ (HV.out.keep hb0) HS.out (by rw [HL.out]; exact hl)).mono ?_; rw [HB.out]; rintro e w1 ⟨rfl, hb1⟩
            replace XB := XB.keep hb1 XB.lt
            replace hb0 := chain hb0 hb1
            clear hb1
            clear x0 x1 x2 x3 x4 x5 x6 x7 x8
            obtain ⟨x0, x1, x2, x3, x4, x5, x6, x7, x8⟩ := id XB
            simp only [Gl.kind, Gl.frm, Gl.rcv, Gl.sort, Gl.name] at x0 x1 x2 x3 x4
            go_wp2_with fail
            refine (isRole_any f _ hf).mono ?_; rw [HR1.out]; rintro e w1 ⟨rfl, hb1⟩
            replace XB := XB.keep hb1 XB.lt
            replace hb0 := chain hb0 hb1
            clear hb1
            clear x0 x1 x2 x3 x4 x5 x6 x7 x8
            obtain ⟨x0, x1, x2, x3, x4, x5, x6, x7, x8⟩ := id XB
            simp only [Gl.kind, Gl.frm, Gl.rcv, Gl.sort, Gl.name] at x0 x1 x2 x3 x4
            go_wp2_with fail
            refine (isRole_any f _ ho).mono ?_; rw [HR2.out]; rintro e w1 ⟨rfl, hb1⟩
            replace XB := XB.keep hb1 XB.lt
            replace hb0 := chain hb0 hb1
            clear hb1
            clear x0 x1 x2 x3 x4 x5 x6 x7 x8
            obtain ⟨x0, x1, x2, x3, x4, x5, x6, x7, x8⟩ := id XB
            simp only [Gl.kind, Gl.frm, Gl.rcv, Gl.sort, Gl.name] at x0 x1 x2 x3 x4
            go_wp2_with fail
            go_ret
            exact ⟨ret_bool' (by rw [← HA.out]; simp [shapeN, *]), by first | exact hb0 | exact below_drewN hb0 _⟩
          · have hq : (f == o) = false := by simpa using hfo
            go_enter Tryd.func103, Tryd.ntmps103
            go_wp2_with fail
            have hb0 : Below w.heap.size w (w.alloc (.cells #[.int .i64 6, .string ⟨f.toArray⟩, .string ⟨o.toArray⟩, .int .i64 0, .string ⟨#[]⟩, .slice A kids cap, .slice A' kids cap'] 52)) := by go_grown
            have XB := new_gval w (.mk 6 f o 0 ([] : Str) ls []) (.slice A kids cap) (.slice A' kids cap') 52
            simp only [Gl.kind, Gl.frm, Gl.rcv, Gl.sort, Gl.name] at XB
            generalize w.alloc (.cells #[.int .i64 6, .string ⟨f.toArray⟩, .string ⟨o.toArray⟩, .int .i64 0, .string ⟨#[]⟩, .slice A kids cap, .slice A' kids cap'] 52) = w0 at hb0 XB ⊢
            obtain ⟨x0, x1, x2, x3, x4, x5, x6, x7, x8⟩ := id XB
            simp only [Gl.kind, Gl.frm, Gl.rcv, Gl.sort, Gl.name] at x0 x1 x2 x3 x4
            go_quiet (fail)
            replace XB := XB.drewN nq
            replace hb0 := below_drewN hb0 nq
            clear x0 x1 x2 x3 x4 x5 x6 x7 x8
            obtain ⟨x0, x1, x2, x3, x4, x5, x6, x7, x8⟩ := id XB
            simp only [Gl.kind, Gl.frm, Gl.rcv, Gl.sort, Gl.name] at x0 x1 x2 x3 x4
            go_wp2_with fail
            refine (glabels_any _ ls _ (HV.out.keep hb0) HS.out (by rw [HL.out]; exact hl)).mono ?_; rw [HB.out]; rintro e w1 ⟨rfl, hb1⟩
            replace XB := XB.keep hb1 XB.lt
            replace hb0 := chain hb0 hb1
            clear hb1
            clear x0 x1 x2 x3 x4 x5 x6 x7 x8
            obtain ⟨x0, x1, x2, x3, x4, x5, x6, x7, x8⟩ := id XB
            simp only [Gl.kind, Gl.frm, Gl.rcv, Gl.sort, Gl.name] at x0 x1 x2 x3 x4
            go_wp2_with fail
            refine (isRole_any f _ hf).mono ?_; rw [HR1.out]; rintro e w1 ⟨rfl, hb1⟩
            replace XB := XB.keep hb1 XB.lt
            replace hb0 := chain hb0 hb1
            clear hb1
            clear x0 x1 x2 x3 x4 x5 x6 x7 x8
            obtain ⟨x0, x1, x2, x3, x4, x5, x6, x7, x8⟩ := id XB
            simp only [Gl.kind, Gl.frm, Gl.rcv, Gl.sort, Gl.name] at x0 x1 x2 x3 x4
            go_wp2_with fail
            refine (isRole_any o _ ho).mono ?_; rw [HR2.out]; rintro e w1 ⟨rfl, hb1⟩
            replace XB := XB.keep hb1 XB.lt
            replace hb0 := chain hb0 hb1
            clear hb1
            clear x0 x1 x2 x3 x4 x5 x6 x7 x8
            obtain ⟨x0, x1, x2, x3, x4, x5, x6, x7, x8⟩ := id XB
            simp only [Gl.kind, Gl.frm, Gl.rcv, Gl.sort, Gl.name] at x0 x1 x2 x3 x4
            go_wp2_with fail
            go_ret
            exact ⟨ret_bool' (by rw [← HA.out]; simp [shapeN, *]), by first | exact hb0 | exact below_drewN hb0 _⟩
  · skip
    go_enter Tryd.func103, Tryd.ntmps103
    go_wp2_with fail
    go_quiet (fail)
    go_wp2_with fail
    all_goals first
      | (go_ret; refine ⟨ret_bool' ?_, below_drewN (by go_grown) _⟩; rw [← HA.out]; first | (simp [shapeN, *]; done) | (simp [shapeN, *]; omega))
      | (exfalso; apply g; simp_all; done)
      | (exfalso; apply g; simp_all; omega)
theorem gshaped_any (t : Gl) (v : Value) (w : World) {D : Blocks} (hv : GlV D w v t) (hf : GFit t) :
    Calls Tryd.prog 103 #[v] w fun e w' => e = .returned (.bool (gShape t.kind t.frm t.rcv t.sort t.name t.labels t.kids.length)) ∧ Below w.heap.size w w' := by
  obtain ⟨lv, kv, rfl, h1, A, cap, rfl, -, -⟩ := hv
  obtain ⟨f1, f2, f3, f4, f5, f6, -⟩ := hf.parts
  unfold maxLen at f1 f2 f3 f4 f5
  obtain ⟨k, f, o, s, n, ls, ks⟩ := t
  simp only [Gl.kind, Gl.frm, Gl.rcv, Gl.sort, Gl.name, Gl.labels, Gl.kids] at *
  replace h1 := h1.is
  have h1' := h1
  obtain ⟨A', cap', rfl, -, -⟩ := h1'
  by_cases h : k = 1
  · subst h; exact gshaped_1 f o s n ls ks.length A' cap' A cap w f1 f2 f3 f4 f5 f6 h1
  by_cases h2 : k = 2
  · subst h2; exact gshaped_2 f o s n ls ks.length A' cap' A cap w f1 f2 f3 f4 f5 f6 h1
  by_cases h6 : k = 6
  · subst h6; exact gshaped_6 f o s n ls ks.length A' cap' A cap w f1 f2 f3 f4 f5 f6 h1
  by_cases h8 : k = 8
  · subst h8; exact gshaped_8 f o s n ls ks.length A' cap' A cap w f1 f2 f3 f4 f5 f6 h1
  by_cases h9 : k = 9
  · subst h9; exact gshaped_9 f o s n ls ks.length A' cap' A cap w f1 f2 f3 f4 f5 f6 h1
  exact gshaped_o k h h2 h6 h8 h9 f o s n ls ks.length A' cap' A cap w f1 f2 f3 f4 f5 f6 h1
theorem gshape_shape {k : Int} {f o : Str} {s : Int} {n : Str} {ls : List Str} {c : Nat} (h : gShape k f o s n ls c = true) : shapeOk k s n ls c = true := by
  unfold gShape at h
  simp only [Bool.and_eq_true] at h
  exact h.2
end Go.Proofs.YtgnkncfnkjeinaaDoor
