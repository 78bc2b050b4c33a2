/-
  More plain facts on UTF-8 texts: counting, []rune(s), the longest beginning of whole letters.
-/
import Derived.Test.YtcacembpegoghaaDoorUtf
namespace Go.Proofs.YtcacembpegoghaaDoor
open Go.RowKit Go.Proofs

/-- One letter at a place of a text. -/
theorem letters_at (s : ByteArray) (pos : Nat) (rs : List Int) (hp : pos < s.size) (h : letters (s.data.toList.drop pos) = some rs) :
    ∃ r1, rs = ((Utf8.decode s pos).1 : Int) :: r1 ∧ letters (s.data.toList.drop (pos + (Utf8.decode s pos).2)) = some r1 ∧ 1 ≤ (Utf8.decode s pos).2 := by
  have hd := Lib.decodeL_drop s pos
  have hne : s.data.toList.drop pos ≠ [] := by
    intro e
    have := congrArg List.length e
    rw [List.length_drop, ← Lib.size_eq] at this
    simp at this; omega
  have hw := Lib.decodeL_width (s.data.toList.drop pos)
  by_cases hb : (Lib.decodeL (s.data.toList.drop pos)).1 = 65533 ∧ (Lib.decodeL (s.data.toList.drop pos)).2 < 2
  · rw [letters_bad hne hb] at h; cases h
  · rw [letters_cons hne hb, List.drop_drop, hd] at h
    rw [hd] at hw
    cases hr : letters (s.data.toList.drop (pos + (Utf8.decode s pos).2)) with
    | none => rw [hr] at h; cases h
    | some r1 => rw [hr] at h; cases h; exact ⟨r1, rfl, rfl, hw⟩

theorem count_letters (s : ByteArray) : ∀ (fuel pos : Nat) (rs : List Int), s.size ≤ pos + fuel → letters (s.data.toList.drop pos) = some rs → Lib.runeCountFrom s fuel pos = rs.length := by
  intro fuel
  induction fuel with
  | zero =>
    intro pos rs h e
    rw [List.drop_of_length_le (by rw [← Lib.size_eq]; omega), letters_nil] at e
    cases e; rfl
  | succ f ih =>
    intro pos rs h e
    unfold Lib.runeCountFrom
    by_cases hp : pos < s.size
    · rw [if_pos hp]
      obtain ⟨r1, rfl, h1, hw⟩ := letters_at s pos rs hp e
      rw [ih _ r1 (by omega) h1]
      simp; omega
    · rw [if_neg hp]
      rw [List.drop_of_length_le (by rw [← Lib.size_eq]; omega), letters_nil] at e
      cases e; rfl
theorem runeCount_letters (t : List UInt8) (rs : List Int) (h : letters t = some rs) : Lib.runeCount ⟨t.toArray⟩ = rs.length := by
  unfold Lib.runeCount
  exact count_letters ⟨t.toArray⟩ _ 0 rs (by omega) (by simpa using h)

theorem runes_letters (s : ByteArray) : ∀ (fuel pos : Nat) (acc : Array Value) (rs : List Int), s.size ≤ pos + fuel → letters (s.data.toList.drop pos) = some rs → Conv.runesFrom s fuel pos acc = acc ++ (runeCells rs).toArray := by
  intro fuel
  induction fuel with
  | zero =>
    intro pos acc rs h e
    rw [List.drop_of_length_le (by rw [← Lib.size_eq]; omega), letters_nil] at e
    cases e; simp [Conv.runesFrom]
  | succ f ih =>
    intro pos acc rs h e
    unfold Conv.runesFrom
    by_cases hp : pos < s.size
    · rw [if_pos hp]
      obtain ⟨r1, rfl, h1, hw⟩ := letters_at s pos rs hp e
      dsimp only
      rw [ih _ _ r1 (by omega) h1]
      simp
    · rw [if_neg hp]
      rw [List.drop_of_length_le (by rw [← Lib.size_eq]; omega), letters_nil] at e
      cases e; simp

set_option maxRecDepth 1000000 in
/-- The bytes of a letter: how many; the first begins one, the others don't. -/
theorem enc_facts (r : Int) (hv : Utf8.valid r = true) : Lib.runeLen r = (enc r).length ∧ ∃ b t, enc r = b :: t ∧ Lib.runeStart (b.toNat : Int) = true ∧ ∀ x ∈ t, Lib.runeStart (x.toNat : Int) = false := by
  have h := hv
  simp only [Utf8.valid, Bool.or_eq_true, Bool.and_eq_true, decide_eq_true_eq] at h
  obtain ⟨c, rfl⟩ : ∃ c : Nat, r = c := ⟨r.toNat, by omega⟩
  have st : ∀ n : Nat, n < 256 → Lib.runeStart ((UInt8.ofNat n).toNat : Int) = (n / 64 != 2) := by
    intro n hn
    have e : (UInt8.ofNat n).toNat = n := by simp; omega
    unfold Lib.runeStart
    rw [e, Bool.eq_iff_iff]; simp; omega
  unfold Lib.runeLen enc Utf8.encode
  simp only [hv, if_true, Int.toNat_natCast]
  by_cases h1 : c < 128
  · rw [if_pos h1, if_neg (by omega), if_pos (by omega)]
    refine ⟨rfl, _, _, rfl, ?_, by simp⟩
    rw [st _ (by omega)]; simp; omega
  · rw [if_neg h1, if_neg (by omega), if_neg (by omega)]
    by_cases h2 : c < 2048
    · rw [if_pos h2, if_pos (by omega)]
      refine ⟨rfl, _, _, rfl, ?_, ?_⟩
      · rw [st _ (by omega)]; simp; omega
      · intro x hx; simp only [List.mem_cons, List.not_mem_nil, or_false] at hx; subst hx; rw [st _ (by omega)]; simp; omega
    · rw [if_neg h2, if_neg (by omega), if_neg (by omega)]
      by_cases h3 : c < 65536
      · rw [if_pos h3, if_pos (by omega)]
        refine ⟨rfl, _, _, rfl, ?_, ?_⟩
        · rw [st _ (by omega)]; simp; omega
        · intro x hx; simp only [List.mem_cons, List.not_mem_nil, or_false] at hx; rcases hx with rfl | rfl <;> (rw [st _ (by omega)]; simp; omega)
      · rw [if_neg h3, if_neg (by omega), if_pos (by omega)]
        refine ⟨rfl, _, _, rfl, ?_, ?_⟩
        · rw [st _ (by omega)]; simp; omega
        · intro x hx; simp only [List.mem_cons, List.not_mem_nil, or_false] at hx; rcases hx with rfl | rfl | rfl <;> (rw [st _ (by omega)]; simp; omega)

/-- The reference's Joined: letter by letter as long as there is room. -/
def joinGo : List UInt8 → List Int → List UInt8
  | s, [] => s
  | s, c :: r => if 100 < s.length + (enc c).length then s else joinGo (s ++ enc c) r

theorem join_all : ∀ (rs : List Int) (p : List UInt8), (p ++ rs.flatMap enc).length ≤ 100 → joinGo p rs = p ++ rs.flatMap enc := by
  intro rs
  induction rs with
  | nil => intro p _; simp [joinGo]
  | cons c r ih =>
    intro p h
    simp only [List.flatMap_cons, List.length_append] at h
    unfold joinGo
    rw [if_neg (by omega), ih _ (by simp only [List.length_append]; omega)]
    simp

/-- Where a longer text is cut: the last place up to 100 at which a letter begins. -/
theorem join_cut : ∀ (rs : List Int) (p : List UInt8), (∀ r ∈ rs, Utf8.valid r = true) → p.length ≤ 100 → 100 < (p ++ rs.flatMap enc).length →
    ∃ m, m ≤ 100 ∧ p.length ≤ m ∧ joinGo p rs = (p ++ rs.flatMap enc).take m ∧ (∃ b, (p ++ rs.flatMap enc)[m]? = some b ∧ Lib.runeStart (b.toNat : Int) = true) ∧
      ∀ j, m < j → j ≤ 100 → ∃ b, (p ++ rs.flatMap enc)[j]? = some b ∧ Lib.runeStart (b.toNat : Int) = false := by
  intro rs
  induction rs with
  | nil => intro p _ h1 h2; simp at h2; omega
  | cons c r ih =>
    intro p hv h1 h2
    obtain ⟨hl, b, t, he, hb, ht⟩ := enc_facts c (hv c (by simp))
    unfold joinGo
    by_cases hc : 100 < p.length + (enc c).length
    · rw [if_pos hc]
      refine ⟨p.length, h1, Nat.le_refl _, by simp, ⟨b, ?_, hb⟩, ?_⟩
      · simp [he]
      · intro j hj1 hj2
        rw [List.getElem?_append_right (by omega), List.flatMap_cons, List.getElem?_append_left (by omega), he]
        obtain ⟨k, hk⟩ : ∃ k, j - p.length = k + 1 := ⟨j - p.length - 1, by omega⟩
        rw [hk, List.getElem?_cons_succ]
        have hk2 : k < t.length := by rw [he] at hc; simp at hc; omega
        exact ⟨t[k], List.getElem?_eq_getElem hk2, ht _ (List.getElem_mem hk2)⟩
    · rw [if_neg hc]
      obtain ⟨m, k1, k2, k3, k4, k5⟩ := ih (p ++ enc c) (fun x hx => hv x (by simp [hx])) (by simp; omega) (by simpa [List.flatMap_cons] using h2)
      have e : p ++ enc c ++ r.flatMap enc = p ++ (c :: r).flatMap enc := by simp
      rw [e] at k3 k4 k5
      exact ⟨m, k1, by simp at k2; omega, k3, k4, k5⟩
end Go.Proofs.YtcacembpegoghaaDoor
