/-
  Names: exprs.IsName, types.IsVar and the reference's small, IsName, IsVar answer 'isName' and 'isVar'.
-/
import Derived.Test.YtcacembpegoghaaDoorTy
import Derived.Shelf.Strings.SlTrimAscii
import Derived.Lib.SlicesS
namespace Go.Proofs.YtcacembpegoghaaDoor
open Go.RowKit Go.Proofs

set_option maxRecDepth 100000
/-- Small letters only. -/
def low (l : Str) : Bool := l.all fun b => decide (97 ≤ b.toNat) && decide (b.toNat ≤ 122)
def alphabet : Str := [97, 98, 99, 100, 101, 102, 103, 104, 105, 106, 107, 108, 109, 110, 111, 112, 113, 114, 115, 116, 117, 118, 119, 120, 121, 122]
/-- The words of the language. -/
def words : List Str := [[116, 114, 117, 101], [102, 97, 108, 115, 101], [97, 110, 100], [111, 114], [110, 111, 116]]
def small (l : Str) : Bool := low l && decide (1 ≤ l.length) && decide (l.length ≤ 8)
def isName (l : Str) : Bool := small l && !decide (l ∈ words)
def isVar (l : Str) : Bool := isName l && (!(l == [101, 110, 100]) && !(l == [114, 101, 99]))

theorem alphabet_has (b : UInt8) : alphabet.contains b = (decide (97 ≤ b.toNat) && decide (b.toNat ≤ 122)) := by
  have : ∀ n : Fin 256, alphabet.contains (UInt8.ofNat n.val) = (decide (97 ≤ n.val) && decide (n.val ≤ 122)) := by decide +kernel
  have h := this ⟨b.toNat, b.toNat_lt⟩
  simpa using h
theorem dw_all {p : UInt8 → Bool} : ∀ {l : Str}, (∀ b ∈ l.dropWhile p, p b = true) → ∀ b ∈ l, p b = true := by
  intro l
  induction l with
  | nil => intro _ b hb; simp at hb
  | cons x l ih =>
    intro h b hb
    by_cases hx : p x = true
    · rw [List.dropWhile_cons, if_pos hx] at h
      rcases List.mem_cons.1 hb with rfl | hb
      · exact hx
      · exact ih h b hb
    · rw [List.dropWhile_cons, if_neg hx] at h
      exact h b hb
theorem dw_nil {p : UInt8 → Bool} : ∀ {l : Str}, (∀ b ∈ l, p b = true) → l.dropWhile p = [] := by
  intro l
  induction l with
  | nil => intro _; rfl
  | cons x l ih =>
    intro h
    rw [List.dropWhile_cons, if_pos (h x (by simp))]
    exact ih fun b hb => h b (by simp [hb])
theorem trim_low (l : Str) : Lib.trimS l alphabet = [] ↔ low l = true := by
  unfold Lib.trimS Lib.trimLeftS Lib.trimRightS low
  rw [List.all_eq_true]
  have he : ∀ b, (decide (97 ≤ b.toNat) && decide (b.toNat ≤ 122)) = alphabet.contains b := fun b => (alphabet_has b).symm
  simp only [he]
  constructor
  · intro h
    have h1 : ∀ b ∈ (l.reverse.dropWhile (alphabet.contains ·)).reverse, alphabet.contains b = true := dw_all (by rw [h]; simp)
    have h2 := dw_all (p := (alphabet.contains ·)) (l := l.reverse) fun b hb => h1 b (by simpa using hb)
    intro b hb
    exact h2 b (by simpa using hb)
  · intro h
    have h1 : l.reverse.dropWhile (alphabet.contains ·) = [] := dw_nil fun b hb => h b (by simpa using hb)
    rw [h1]
    rfl
theorem mk_inj {a b : Str} : ((⟨a.toArray⟩ : ByteArray) = ⟨b.toArray⟩) ↔ a = b := by
  constructor
  · intro h
    have := congrArg (fun x : ByteArray => x.data.toList) h
    simpa using this
  · rintro rfl; rfl
theorem contains_mk (zs : List Str) (x : Str) : Lib.containsS (zs.map fun s => ⟨s.toArray⟩) ⟨x.toArray⟩ = decide (x ∈ zs) := by
  rw [Bool.eq_iff_iff, Lib.containsS_iff, decide_eq_true_eq, List.mem_map]
  constructor
  · rintro ⟨s, hs, h⟩
    rw [mk_inj] at h
    exact h ▸ hs
  · intro h
    exact ⟨x, h, rfl⟩

/-- slices.Contains on a slice of texts. -/
theorem contains_any {w : World} {v : Value} {zs : List Str} (h : IsStrs w v zs) (hl : zs.length ≤ 9223372036854775807) (x : Str) :
    Calls Tryd.prog 103 #[v, .string ⟨x.toArray⟩] w fun e w' => e = .returned (.bool (decide (x ∈ zs))) ∧ w' = w := by
  obtain ⟨A, cap, rfl, hc, h3⟩ := h
  rcases Nat.eq_zero_or_pos zs.length with h0 | h0
  · obtain rfl := List.eq_nil_of_length_eq_zero h0
    simpa using Tryd.slices_Contains_string_empty A cap ⟨x.toArray⟩ w
  · obtain ⟨b, off, rfl, hr⟩ := h3 h0
    have := Tryd.slices_Contains_string b off zs.length cap (zs.map fun s => ⟨s.toArray⟩) ⟨x.toArray⟩ w (by simp) hl (by
      intro j hj
      have hj' : j < zs.length := by simpa using hj
      rw [hr j zs[j] (by simp [hj'])]
      simp [List.getD, hj'])
    rw [List.take_of_length_le (by simp), contains_mk] at this
    exact this

theorem byte_at' {l : Str} {k : Nat} {b : UInt8} (h : l[k]? = some b) (hk : k < (⟨l.toArray⟩ : ByteArray).size) : (⟨l.toArray⟩ : ByteArray)[k]'hk = b := by
  have : (⟨l.toArray⟩ : ByteArray)[k]'hk = l[k]'(by simpa [ByteArray.size] using hk) := rfl
  rw [this]
  exact (List.getElem?_eq_some_iff.1 h).2

theorem low_drop {l : Str} {k : Nat} {x : UInt8} (h : l[k]? = some x) : low (l.drop k) = ((decide (97 ≤ x.toNat) && decide (x.toNat ≤ 122)) && low (l.drop (k + 1))) := by
  obtain ⟨h1, h2⟩ := List.getElem?_eq_some_iff.1 h
  rw [List.drop_eq_getElem_cons h1, h2]
  rfl
theorem ret_bool' {a b : Bool} (h : a = b) : Ending.returned (.bool a) = .returned (.bool b) := by rw [h]

set_option maxHeartbeats 1000000 in
theorem small_any (l : Str) (w : World) (hl : l.length ≤ 9223372036854775807) :
    Calls Tryd.prog 196 #[.string ⟨l.toArray⟩] w fun e w' => e = .returned (.bool (small l)) ∧ w' = w := by
  obtain ⟨ANS, hA⟩ : ∃ x, small l = x := ⟨_, rfl⟩
  have HA := Lib.hid hA; rw [hA]; clear hA
  go_enter Tryd.func196, Tryd.ntmps196
  go_wp2
  go_loop [3] (fun i => ∃ k : Nat, k ≤ l.length ∧ i = .int .i64 k ∧ Hid (low l = low (l.drop k))) (fun i => l.length - (intOf i).toNat)
  case atStart => exact ⟨0, by omega, rfl, rfl⟩
  case round =>
    obtain ⟨k, hk, rfl, hf⟩ := hrel
    by_cases hlt : k < l.length
    · obtain ⟨x, hx⟩ : ∃ x, l[k]? = some x := ⟨_, List.getElem?_eq_getElem hlt⟩
      have HX := Lib.hid hx; clear hx
      have E : ((⟨l.toArray⟩ : ByteArray)[k]'(by simpa [ByteArray.size] using hlt)).toNat = x.toNat := by rw [byte_at' HX.out]
      go_wp2_with fail
      · go_ret
        refine ⟨ret_bool' ?_, rfl⟩
        have := hf.out
        rw [low_drop HX.out] at this
        rw [← HA.out]
        have hx : ¬ (97 ≤ x.toNat ∧ x.toNat ≤ 122) := by omega
        unfold small
        rw [this]
        by_cases h97 : 97 ≤ x.toNat
        · have : ¬ x.toNat ≤ 122 := fun h => hx ⟨h97, h⟩
          simp [this]
        · simp [h97]
      · refine ⟨⟨k + 1, by omega, by simp, ?_⟩, by simp [intOf]; omega⟩
        show low l = _
        have := hf.out
        rw [low_drop HX.out] at this
        have e1 : 97 ≤ x.toNat := by omega
        have e2 : x.toNat ≤ 122 := by omega
        rw [this]
        simp [e1, e2]
      · go_ret
        refine ⟨ret_bool' ?_, rfl⟩
        have := hf.out
        rw [low_drop HX.out] at this
        rw [← HA.out]
        have h97 : ¬ 97 ≤ x.toNat := by omega
        unfold small
        rw [this]
        simp [h97]
    · have hk' : k = l.length := by omega
      subst hk'
      clear hlt
      have hlow : low l = true := by rw [hf.out]; simp [low]
      have HL := Lib.hid hlow; clear hlow hf
      go_wp2_with fail
      · go_ret
        refine ⟨ret_bool' ?_, rfl⟩
        rw [← HA.out]
        unfold small
        rw [HL.out]
        have e1 : 1 ≤ l.length := by omega
        simp [e1]
        omega
      · go_ret
        refine ⟨ret_bool' ?_, rfl⟩
        rw [← HA.out]
        unfold small
        have e1 : ¬ 1 ≤ l.length := by omega
        simp [e1]

theorem words_in (w : World) : IsStrs (w.alloc (.cells #[.string ⟨#[116, 114, 117, 101]⟩, .string ⟨#[102, 97, 108, 115, 101]⟩, .string ⟨#[97, 110, 100]⟩, .string ⟨#[111, 114]⟩, .string ⟨#[110, 111, 116]⟩] 9)) (.slice (some ⟨w.heap.size, 0, none⟩) 5 5) words := by
  refine ⟨_, 5, rfl, by decide, fun _ => ⟨w.heap.size, 0, rfl, fun i s hi => ?_⟩⟩
  match i, hi with
  | 0, hi | 1, hi | 2, hi | 3, hi | 4, hi => simp [words] at hi; subst hi; simp [go_sem]
  | i + 5, hi => simp [words] at hi

set_option maxHeartbeats 1000000 in
theorem refIsName_any (l : Str) (w : World) (hl : l.length ≤ 9223372036854775807) :
    Calls Tryd.prog 111 #[.string ⟨l.toArray⟩] w fun e w' => e = .returned (.bool (isName l)) ∧ Below w.heap.size w w' := by
  obtain ⟨ANS, hA⟩ : ∃ x, isName l = x := ⟨_, rfl⟩
  have HA := Lib.hid hA; rw [hA]; clear hA
  cases hs : small l with
  | false =>
    have HS := Lib.hid hs; clear hs
    go_enter Tryd.func111, Tryd.ntmps111
    go_wp2_with fail
    refine (small_any l _ hl).mono ?_; rw [HS.out]; rintro e w1 ⟨rfl, rfl⟩
    go_wp2_with fail
    go_ret
    exact ⟨ret_bool' (by rw [← HA.out]; simp [isName, HS.out]), by go_grown⟩
  | true =>
    have HS := Lib.hid hs; clear hs
    go_enter Tryd.func111, Tryd.ntmps111
    go_wp2_with fail
    refine (small_any l _ hl).mono ?_; rw [HS.out]; rintro e w1 ⟨rfl, rfl⟩
    go_wp2_with fail
    refine (contains_any (words_in _) (by decide) l).mono ?_; rintro e w1 ⟨rfl, rfl⟩
    go_wp2_with fail
    go_ret
    exact ⟨ret_bool' (by rw [← HA.out]; simp [isName, HS.out]), by go_grown⟩

theorem trim_any (l : Str) (w : World) (hl : l.length ≤ 9223372036854775807) :
    Calls Tryd.prog 195 #[.string ⟨l.toArray⟩, .string ⟨#[97, 98, 99, 100, 101, 102, 103, 104, 105, 106, 107, 108, 109, 110, 111, 112, 113, 114, 115, 116, 117, 118, 119, 120, 121, 122]⟩] w fun e w' => e = .returned (.string ⟨(Lib.trimS l alphabet).toArray⟩) ∧ Below w.heap.size w w' :=
  Any.strings_Trim_laid Tryd.lays160 (by kernel_rfl) ⟨l.toArray⟩ ⟨alphabet.toArray⟩ w (by rw [Lib.size_eq]; exact hl) (by decide) (ascii_of_all (by decide +kernel))
theorem str_eq (a b : Str) : ((⟨a.toArray⟩ : ByteArray).toList == (⟨b.toArray⟩ : ByteArray).toList) = decide (a = b) := by
  rw [Bool.eq_iff_iff, Lib.bytes_beq_iff, decide_eq_true_eq, mk_inj]

set_option maxHeartbeats 1000000 in
theorem isName_any (l : Str) (w : World) (hl : l.length ≤ 9223372036854775807) :
    Calls Tryd.prog 110 #[.string ⟨l.toArray⟩] w fun e w' => e = .returned (.bool (isName l)) ∧ Below w.heap.size w w' := by
  obtain ⟨ANS, hA⟩ : ∃ x, isName l = x := ⟨_, rfl⟩
  have HA := Lib.hid hA; rw [hA]; clear hA
  by_cases h0 : l = []
  · subst h0
    go_enter Tryd.func110, Tryd.ntmps110
    go_wp2_with fail
    go_ret
    exact ⟨ret_bool' (by rw [← HA.out]; rfl), by go_grown⟩
  · have h1 : 1 ≤ l.length := by have : l.length ≠ 0 := by simpa using h0
                                 omega
    obtain ⟨T, hT⟩ : ∃ x, Lib.trimS l alphabet = x := ⟨_, rfl⟩
    have HT := Lib.hid hT; clear hT
    by_cases hlow : low l = true
    · have hT0 : T = [] := by rw [← HT.out]; exact (trim_low l).2 hlow
      subst hT0
      have HL := Lib.hid hlow; clear hlow
      have H1 := Lib.hid h1; clear h1
      have hE : l.isEmpty = false := by simpa using h0
      go_enter Tryd.func110, Tryd.ntmps110
      go_wp2_with fail
      · refine (trim_any l _ hl).mono ?_; rw [HT.out]; rintro e w1 ⟨rfl, hb1⟩
        have h8 : decide (8 < (l.length : Int)) = false := by simp; omega
        go_wp2_with fail
        refine (contains_any (words_in _) (by decide) l).mono ?_; rintro e w1 ⟨rfl, rfl⟩
        go_wp2_with fail
        go_ret
        refine ⟨ret_bool' ?_, chain hb1 (by go_grown)⟩
        have e1 := H1.out
        have e2 : l.length ≤ 8 := by omega
        rw [← HA.out]; simp [isName, small, HL.out, e1, e2]
      · go_ret
        refine ⟨ret_bool' ?_, by go_grown⟩
        have e2 : ¬ l.length ≤ 8 := by omega
        rw [← HA.out]; simp [isName, small, e2]
    · have hT0 : T ≠ [] := by rw [← HT.out]; exact fun h => hlow ((trim_low l).1 h)
      have hT1 : T.isEmpty = false := by simpa using hT0
      have hlow' : low l = false := by simpa using hlow
      have HL := Lib.hid hlow'; clear hlow hlow' hT0
      have H1 := Lib.hid h1; clear h1
      go_enter Tryd.func110, Tryd.ntmps110
      go_wp2_with fail
      · refine (trim_any l _ hl).mono ?_; rw [HT.out]; rintro e w1 ⟨rfl, hb1⟩
        go_wp2_with fail
        go_ret
        refine ⟨ret_bool' ?_, by go_grown⟩
        rw [← HA.out]; simp [isName, small, HL.out]
      · go_ret
        refine ⟨ret_bool' ?_, by go_grown⟩
        rw [← HA.out]; simp [isName, small, HL.out]

set_option maxHeartbeats 1000000 in
theorem refIsVar_any (l : Str) (w : World) (hl : l.length ≤ 9223372036854775807) :
    Calls Tryd.prog 34 #[.string ⟨l.toArray⟩] w fun e w' => e = .returned (.bool (isVar l)) ∧ Below w.heap.size w w' := by
  obtain ⟨ANS, hA⟩ : ∃ x, isVar l = x := ⟨_, rfl⟩
  have HA := Lib.hid hA; rw [hA]; clear hA
  obtain ⟨B, hs⟩ : ∃ x, isName l = x := ⟨_, rfl⟩
  have HS := Lib.hid hs; clear hs
  cases B
  all_goals
    go_enter Tryd.func34, Tryd.ntmps34
    go_wp2_with fail
    refine (refIsName_any l _ hl).mono ?_; rw [HS.out]; rintro e w1 ⟨rfl, hb1⟩
    go_wp2_with fail
    all_goals
      go_ret
      exact ⟨ret_bool' (by rw [← HA.out]; simp [isVar, HS.out, *]), by go_grown⟩

set_option maxHeartbeats 1000000 in
theorem isVar_any (l : Str) (w : World) (hl : l.length ≤ 9223372036854775807) :
    Calls Tryd.prog 33 #[.string ⟨l.toArray⟩] w fun e w' => e = .returned (.bool (isVar l)) ∧ Below w.heap.size w w' := by
  obtain ⟨ANS, hA⟩ : ∃ x, isVar l = x := ⟨_, rfl⟩
  have HA := Lib.hid hA; rw [hA]; clear hA
  obtain ⟨B, hs⟩ : ∃ x, isName l = x := ⟨_, rfl⟩
  have HS := Lib.hid hs; clear hs
  cases B
  all_goals
    go_enter Tryd.func33, Tryd.ntmps33
    go_wp2_with fail
    refine (isName_any l _ hl).mono ?_; rw [HS.out]; rintro e w1 ⟨rfl, hb1⟩
    go_wp2_with fail
    all_goals
      go_ret
      exact ⟨ret_bool' (by rw [← HA.out]; simp [isVar, HS.out, *]), by go_grown⟩
end Go.Proofs.YtcacembpegoghaaDoor
