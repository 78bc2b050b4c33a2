/-
  The reference's reader: the functions that say what is right, and labels.
-/
import Derived.Test.YtcacembpegoghaaDoorRdR
import Derived.Test.YtcacembpegoghaaDoorTyD
namespace Go.Proofs.YtcacembpegoghaaDoor
open Go.RowKit Go.Proofs

set_option maxRecDepth 100000
theorem is3_any (x : Str) (w : World) : Calls Tryd.prog 194 #[.string ⟨x.toArray⟩] w fun e w' => e = .returned (.bool (isW [125] x || isW [44] x)) ∧ Below w.heap.size w w' := by
  by_cases h1 : x = [125]
  · subst h1
    go_enter Tryd.func194, Tryd.ntmps194
    go_wp2_with fail
    go_ret
    exact ⟨rfl, Below.refl _ _⟩
  · by_cases h2 : x = [44]
    · subst h2
      go_enter Tryd.func194, Tryd.ntmps194
      go_wp2_with fail
      go_ret
      exact ⟨rfl, Below.refl _ _⟩
    · have e1 : (x == [125]) = false := by simpa using h1
      have e2 : (x == [44]) = false := by simpa using h2
      go_enter Tryd.func194, Tryd.ntmps194
      go_wp2_with fail
      go_ret
      exact ⟨ret_bool (by simp [isW, h1, h2]), Below.refl _ _⟩

set_option maxHeartbeats 1000000 in
theorem is1_start (x : Str) (w : World) (hx : x.length ≤ 2000) : Calls Tryd.prog 192 #[.string ⟨x.toArray⟩] w fun e w' => e = .returned (.bool (startOk x)) ∧ Below w.heap.size w w' := by
  obtain ⟨ANS, hA⟩ : ∃ y, startOk x = y := ⟨_, rfl⟩
  have HA := Lib.hid hA; rw [hA]; clear hA
  have hcall := fun w => refIsVar_any x w (by omega)
  by_cases h1 : x = endW
  · have e1 : (x == [101, 110, 100]) = true := by simpa [endW] using h1
    go_enter Tryd.func192, Tryd.ntmps192
    go_wp2_with fail
    go_ret
    exact ⟨ret_bool (by rw [← HA.out]; simp [startOk, isW, h1]), Below.refl _ _⟩
  · have e1 : (x == [101, 110, 100]) = false := by simpa [endW] using h1
    by_cases h2 : x = recW
    · have e2 : (x == [114, 101, 99]) = true := by simpa [recW] using h2
      go_enter Tryd.func192, Tryd.ntmps192
      go_wp2_with fail
      go_ret
      exact ⟨ret_bool (by rw [← HA.out]; simp [startOk, isW, h2]), Below.refl _ _⟩
    · have e2 : (x == [114, 101, 99]) = false := by simpa [recW] using h2
      cases hv : isVar x with
      | true =>
        have HV := Lib.hid hv; clear hv
        go_enter Tryd.func192, Tryd.ntmps192
        go_wp2_with fail
        refine (hcall w).mono ?_; rw [HV.out]; rintro e w1 ⟨rfl, hb1⟩
        go_wp2_with fail
        go_ret
        exact ⟨ret_bool (by rw [← HA.out]; simp [startOk, HV.out]), hb1⟩
      | false =>
        have HV := Lib.hid hv; clear hv
        by_cases h3 : x = [33] ∨ x = [63] ∨ x = [43] ∨ x = [38]
        · rcases h3 with rfl | rfl | rfl | rfl
          all_goals
            go_enter Tryd.func192, Tryd.ntmps192
            go_wp2_with fail
            refine (hcall w).mono ?_; rw [HV.out]; rintro e w1 ⟨rfl, hb1⟩
            go_wp2_with fail
            go_ret
            exact ⟨ret_bool (by rw [← HA.out]; rfl), hb1⟩
        · simp only [not_or] at h3
          obtain ⟨k3, k4, k5, k6⟩ := h3
          have e3 : (x == [33]) = false := by simpa using k3
          have e4 : (x == [63]) = false := by simpa using k4
          have e5 : (x == [43]) = false := by simpa using k5
          have e6 : (x == [38]) = false := by simpa using k6
          go_enter Tryd.func192, Tryd.ntmps192
          go_wp2_with fail
          refine (hcall w).mono ?_; rw [HV.out]; rintro e w1 ⟨rfl, hb1⟩
          go_wp2_with fail
          go_ret
          exact ⟨ret_bool (by rw [← HA.out]; simp [startOk, isW, h1, h2, HV.out, k3, k4, k5, k6]), hb1⟩

def sortWd (s : Nat) : Str := if s = 1 then [105, 110, 116] else if s = 2 then [98, 111, 111, 108] else [116, 101, 120, 116]
theorem sortWd_any (s : Nat) (h1 : 1 ≤ s) (h3 : s ≤ 3) (w : World) :
    Calls Tryd.prog 113 #[.int .i64 s] w fun e w' => e = .returned (.string ⟨(sortWd s).toArray⟩) ∧ Below w.heap.size w w' := by
  obtain rfl | rfl | rfl : s = 1 ∨ s = 2 ∨ s = 3 := by omega
  all_goals
    go_enter Tryd.func113, Tryd.ntmps113
    go_wp2_with fail
    go_ret
    exact ⟨rfl, by go_grown⟩
theorem sortIx_wd (x : Str) (s : Nat) (h1 : 1 ≤ s) (h3 : s ≤ 3) (h : x = sortWd s) : sortIx x = s := by
  obtain rfl | rfl | rfl : s = 1 ∨ s = 2 ∨ s = 3 := by omega
  all_goals subst h; decide
theorem sortIx_no (x : Str) (h : ∀ s, 1 ≤ s → s ≤ 3 → x ≠ sortWd s) : sortIx x = 0 := by
  unfold sortIx
  rw [if_neg (show x ≠ [105, 110, 116] from h 1 (by omega) (by omega)), if_neg (show x ≠ [98, 111, 111, 108] from h 2 (by omega) (by omega)), if_neg (show x ≠ [116, 101, 120, 116] from h 3 (by omega) (by omega))]
set_option maxHeartbeats 1000000 in
theorem sortOf_any (x : Str) (w : World) : Calls Tryd.prog 183 #[.string ⟨x.toArray⟩] w fun e w' => e = .returned (.int .i64 (sortIx x)) ∧ Below w.heap.size w w' := by
  obtain ⟨ANS, hA⟩ : ∃ y, sortIx x = y := ⟨_, rfl⟩
  have HA := Lib.hid hA; rw [hA]; clear hA
  go_enter Tryd.func183, Tryd.ntmps183
  go_wp2_with fail
  go_loopw [3] (fun i wr => ∃ k : Nat, 1 ≤ k ∧ k ≤ 4 ∧ i = .int .i64 k ∧ Hid (∀ s, 1 ≤ s → s < k → x ≠ sortWd s) ∧ Below w.heap.size w wr) (fun i _ => 4 - (intOf i).toNat)
  case atStart => exact ⟨1, by omega, by omega, rfl, Lib.hid (fun s h1 h2 => by omega), Below.refl _ _⟩
  case round =>
    obtain ⟨k, hk1, hk4, rfl, hno, hb⟩ := hrel
    by_cases hlt : k < 4
    · have hlt' : (k : Int) < 4 := by omega
      have hcall := sortWd_any k hk1 (by omega)
      by_cases hx : x = sortWd k
      · have HX := Lib.hid hx
        obtain ⟨W, hW⟩ : ∃ y, sortWd k = y := ⟨_, rfl⟩
        rw [hW] at hcall hx
        have he : (W == x) = true := by simp [hx]
        clear hW hx
        go_wp2_with fail
        refine (hcall wr).mono ?_; clear hcall
        rintro e w1 ⟨rfl, hb1⟩
        go_wp2_with fail
        go_ret
        exact ⟨by rw [← HA.out, sortIx_wd x k hk1 (by omega) HX.out]; rfl, chain hb hb1⟩
      · have HX := Lib.hid hx
        obtain ⟨W, hW⟩ : ∃ y, sortWd k = y := ⟨_, rfl⟩
        rw [hW] at hcall hx
        have he : (W == x) = false := by simpa using fun e : W = x => hx e.symm
        clear hW hx
        go_wp2_with fail
        refine (hcall wr).mono ?_; clear hcall
        rintro e w1 ⟨rfl, hb1⟩
        go_wp2_with fail
        go_roundw
        case rel =>
          refine ⟨k + 1, by omega, by omega, by simp, Lib.hid (fun s h1 h2 => ?_), chain hb hb1⟩
          by_cases hs : s = k
          · rw [hs]; exact HX.out
          · exact hno.out s h1 (by omega)
        case measure => simp [intOf]; omega
    · have hk : k = 4 := by omega
      subst hk
      clear hlt
      go_wp2_with fail
      go_ret
      exact ⟨by rw [← HA.out, sortIx_no x (fun s h1 h3 => hno.out s h1 (by omega))]; rfl, hb⟩
theorem is2_any (x : Str) (w : World) : Calls Tryd.prog 193 #[.string ⟨x.toArray⟩] w fun e w' => e = .returned (.bool (decide (0 < sortIx x))) ∧ Below w.heap.size w w' := by
  have hcall := fun w => sortOf_any x w
  go_enter Tryd.func193, Tryd.ntmps193
  go_wp2_with fail
  refine (hcall w).mono ?_; clear hcall
  rintro e w1 ⟨rfl, hb1⟩
  go_wp2_with fail
  go_ret
  exact ⟨ret_bool (by simp), hb1⟩

set_option maxHeartbeats 1000000 in
/-- What is right as the next label. -/
theorem label1_any (x : Str) (ls : List Str) (lv : Value) (a : Nat) (w : World) (hx : x.length ≤ 2000) (hv : IsStrs w lv ls) (hn : ls.length ≤ 7) (hc : w.cell? ⟨a, 0, none⟩ = some lv) :
    Calls Tryd.prog 246 #[.string ⟨x.toArray⟩, .pointer (some ⟨a, 0, none⟩)] w fun e w' => e = .returned (.bool (labelOk ls x)) ∧ Below w.heap.size w w' := by
  obtain ⟨A, cap, rfl, hcap, hr⟩ := hv
  obtain ⟨ANS, hA⟩ : ∃ y, labelOk ls x = y := ⟨_, rfl⟩
  have HA := Lib.hid hA; rw [hA]; clear hA
  have hcall := fun w => refIsName_any x w (by omega)
  cases hi : isName x with
  | false =>
    have HI := Lib.hid hi; clear hi
    go_enter Tryd.func246, Tryd.ntmps246
    go_wp2_with fail
    refine (hcall w).mono ?_; rw [HI.out]; rintro e w1 ⟨rfl, hb1⟩
    go_wp2_with fail
    go_ret
    exact ⟨ret_bool (by rw [← HA.out]; simp [labelOk, HI.out]), hb1⟩
  | true =>
    have HI := Lib.hid hi; clear hi
    by_cases h6 : ls.length < 6
    · have h6' : (ls.length : Int) < 6 := by omega
      by_cases h0 : ls.length = 0
      · have hl : ls = [] := List.eq_nil_of_length_eq_zero h0
        subst hl
        go_enter Tryd.func246, Tryd.ntmps246
        go_wp2_with fail
        refine (hcall w).mono ?_; rw [HI.out]; rintro e w1 ⟨rfl, hb1⟩
        have hc1 := cell_keep hc hb1
        go_wp2_with fail
        go_ret
        exact ⟨ret_bool (by rw [← HA.out]; simp [labelOk, HI.out, behind]), hb1⟩
      · obtain ⟨b, off, rfl, hrow⟩ := hr (by omega)
        obtain ⟨q, hq⟩ : ∃ q, ls[ls.length - 1]? = some q := ⟨_, List.getElem?_eq_getElem (by omega)⟩
        have hcell := hrow _ _ hq
        have hlast : ls.getLast? = some q := by rw [List.getLast?_eq_getElem?]; exact hq
        have HLT := Lib.hid hlast
        have g0 : ((ls.length : Int) == 0) = false := by rw [beq_eq_false_iff_ne]; omega
        have e1 : ((ls.length : Int) - 1) = ((ls.length - 1 : Nat) : Int) := by omega
        have HE1 := Lib.hid e1
        have g1 : 0 ≤ (ls.length : Int) - 1 ∧ (ls.length : Int) - 1 < (ls.length : Int) := by omega
        clear hrow hq hlast e1 hr
        go_enter Tryd.func246, Tryd.ntmps246
        go_wp2_with fail
        refine (hcall w).mono ?_; rw [HI.out]; rintro e w1 ⟨rfl, hb1⟩
        have hc1 := cell_keep hc hb1
        have hc2 := cell_keep hcell hb1
        go_wp2_with fail
        go_ret
        exact ⟨ret_bool (by rw [← HA.out]; simp [labelOk, HI.out, HLT.out, h6, behind_some]), hb1⟩
    · have h6' : decide ((ls.length : Int) < 6) = false := by simp; omega
      go_enter Tryd.func246, Tryd.ntmps246
      go_wp2_with fail
      refine (hcall w).mono ?_; rw [HI.out]; rintro e w1 ⟨rfl, hb1⟩
      have hc1 := cell_keep hc hb1
      go_wp2_with fail
      go_ret
      exact ⟨ret_bool (by rw [← HA.out]; simp [labelOk, HI.out]; omega), hb1⟩
set_option maxHeartbeats 1000000 in
/-- A label. -/
theorem label_any (ls : List Str) (lv : Value) (l : Str) (b p : Nat) (bad : Option Nat) (w : World) (hl : l.length ≤ 2000) (hp : p ≤ l.length) (hR : SBox w b l ⟨p, bad⟩) (hv : StrsD (· ≠ b) w lv ls) (hn : ls.length ≤ 7) :
    Calls Tryd.prog 182 #[.pointer (some ⟨b, 0, none⟩), lv] w fun e w' => e = .returned (.string ⟨(must l (labelOk ls) ⟨p, bad⟩).1.toArray⟩) ∧ w.grownBy w' (some b) ∧ SBox w' b l (must l (labelOk ls) ⟨p, bad⟩).2 := by
  have hmf : ∀ (fn : Fn) (first cap : Array Value) (w : World), (Instr.makeFunc fn first cap).run Tryd.prog w = .ok (.func fn first cap) w := fun _ _ _ _ => rfl
  have HV := Lib.hid hv
  obtain ⟨A, cap, rfl, -, -⟩ := hv
  go_enter Tryd.func182, Tryd.ntmps182
  go_wp2_with fail
  have hbW : Below w.heap.size w (w.alloc (.cells #[.slice A ls.length cap] 39)) := by go_grown
  have hc0 : (w.alloc (.cells #[.slice A ls.length cap] 39)).cell? ⟨w.heap.size, 0, none⟩ = some (.slice A ls.length cap) := by simp [go_sem]
  have hR0 := hR.keep hbW
  have hg0 := grown_belowB (grown_refl w b) hbW
  have hV0 := HV.out.keep (D' := (· ≠ b)) (Same.below hbW) (fun _ h _ => h)
  have hlt := hR.lt
  have hsz : (w.alloc (.cells #[.slice A ls.length cap] 39)).heap.size = w.heap.size + 1 := by simp
  generalize w.alloc (.cells #[.slice A ls.length cap] 39) = w0 at hc0 hR0 hg0 hV0 hsz ⊢
  refine (must_any (labelOk ls) 246 #[.pointer (some ⟨w.heap.size, 0, none⟩)] (fun _ _ => by kernel_rfl) l b p bad w0 hl hp hR0 fun x w' hx hg' => ?_).mono ?_
  · have hs' : Same (· ≠ b) w0 w' := Same.grown hg' (fun k hk e => hk (by injection e))
    exact label1_any x ls _ w.heap.size w' hx (hV0.keep (D' := (· ≠ b)) hs' (fun _ h _ => h)).is hn (hs'.cell (by show w.heap.size ≠ b; omega) hc0)
  · rintro e w1 ⟨rfl, hg1, hR1⟩
    go_wp2_with fail
    go_ret
    exact ⟨rfl, grown_trans hg0 hg1, hR1⟩
end Go.Proofs.YtcacembpegoghaaDoor
