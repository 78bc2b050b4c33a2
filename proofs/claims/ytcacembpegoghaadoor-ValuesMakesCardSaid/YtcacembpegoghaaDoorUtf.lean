/-
  Plain facts on UTF-8 texts, no program in sight: letters and their bytes, counting, the longest beginning of whole letters.
-/
import Derived.Test.YtcacembpegoghaaDoorVal2
import Derived.Lib.TrimUEq
import Derived.Lib.RuneCount
namespace Go.Proofs.YtcacembpegoghaaDoor
open Go.RowKit Go.Proofs

/-- The bytes of a letter. -/
def enc (r : Int) : List UInt8 := (Utf8.encode r).data.toList

theorem u8 {n : Nat} {b : UInt8} (h : n = b.toNat) : UInt8.ofNat n = b := by subst h; simp

set_option maxRecDepth 1000000 in
/-- What is decoded is encoded as it was. -/
theorem dec_enc (l : List UInt8) (h0 : l ≠ []) (hb : ¬ ((Lib.decodeL l).1 = 65533 ∧ (Lib.decodeL l).2 < 2)) :
    l = enc (Lib.decodeL l).1 ++ l.drop (Lib.decodeL l).2 ∧ (enc (Lib.decodeL l).1).length = (Lib.decodeL l).2 ∧ Utf8.valid (Lib.decodeL l).1 = true := by
  have hd := Lib.decodeL_N l
  rw [hd] at hb ⊢
  match l, h0 with
  | b0 :: r, _ =>
    simp only [List.getD_cons_zero, List.getD_cons_succ, List.length_cons] at hb ⊢
    have l0 : b0.toNat < 256 := b0.toNat_lt
    unfold Lib.decodeN at hb ⊢
    split at hb
    · rename_i h
      rw [if_pos h]
      have hv : Utf8.valid ((b0.toNat : Nat) : Int) = true := by simp [Utf8.valid]; omega
      refine ⟨?_, ?_, hv⟩ <;> simp [enc, Utf8.encode, hv, h]
    · rename_i h
      rw [if_neg h]
      split at hb
      · rename_i h2
        rw [if_pos h2]
        obtain ⟨a1, a2, a3⟩ := h2
        match r, a2 with
        | b1 :: r1, _ =>
          simp only [List.getD_cons_zero] at hb a3 ⊢
          split at hb
          · rename_i h3
            rw [if_pos h3]
            have l1 : b1.toNat < 256 := b1.toNat_lt
            obtain ⟨c, hc⟩ : ∃ c, b0.toNat % 32 * 64 + b1.toNat % 64 = c := ⟨_, rfl⟩
            rw [hc] at h3 ⊢
            have hv : Utf8.valid ((c : Nat) : Int) = true := by simp [Utf8.valid]; omega
            have e : enc ((c : Nat) : Int) = [b0, b1] := by
              simp only [enc, Utf8.encode, hv, if_true, Int.toNat_natCast]
              rw [if_neg (by omega), if_pos (by omega)]
              show [_, _] = _
              rw [u8 (show 192 + c / 64 = b0.toNat by omega), u8 (show 128 + c % 64 = b1.toNat by omega)]
            simp only [e]; exact ⟨by simp, rfl, hv⟩
          · simp at hb
      · rename_i h2
        rw [if_neg h2]
        split at hb
        · rename_i h3
          rw [if_pos h3]
          obtain ⟨a1, ⟨a2, a3⟩, a4, a5⟩ := h3
          match r, a4 with
          | b1 :: b2 :: r1, _ =>
            simp only [List.getD_cons_zero, List.getD_cons_succ] at hb a3 a5 ⊢
            split at hb
            · rename_i h4
              rw [if_pos h4]
              have l1 : b1.toNat < 256 := b1.toNat_lt
              have l2 : b2.toNat < 256 := b2.toNat_lt
              obtain ⟨c, hc⟩ : ∃ c, b0.toNat % 16 * 4096 + b1.toNat % 64 * 64 + b2.toNat % 64 = c := ⟨_, rfl⟩
              rw [hc] at h4 ⊢
              have hv : Utf8.valid ((c : Nat) : Int) = true := by simp [Utf8.valid]; omega
              have e : enc ((c : Nat) : Int) = [b0, b1, b2] := by
                simp only [enc, Utf8.encode, hv, if_true, Int.toNat_natCast]
                rw [if_neg (by omega), if_neg (by omega), if_pos (by omega)]
                show [_, _, _] = _
                rw [u8 (show 224 + c / 4096 = b0.toNat by omega), u8 (show 128 + c / 64 % 64 = b1.toNat by omega), u8 (show 128 + c % 64 = b2.toNat by omega)]
              simp only [e]; exact ⟨by simp, rfl, hv⟩
            · simp at hb
        · rename_i h3
          rw [if_neg h3]
          split at hb
          · rename_i h4
            rw [if_pos h4]
            obtain ⟨a1, ⟨a2, a3⟩, ⟨a4, a5⟩, a6, a7⟩ := h4
            match r, a6 with
            | b1 :: b2 :: b3 :: r1, _ =>
              simp only [List.getD_cons_zero, List.getD_cons_succ] at hb a3 a5 a7 ⊢
              split at hb
              · rename_i h5
                rw [if_pos h5]
                have l1 : b1.toNat < 256 := b1.toNat_lt
                have l2 : b2.toNat < 256 := b2.toNat_lt
                have l3 : b3.toNat < 256 := b3.toNat_lt
                obtain ⟨c, hc⟩ : ∃ c, b0.toNat % 8 * 262144 + b1.toNat % 64 * 4096 + b2.toNat % 64 * 64 + b3.toNat % 64 = c := ⟨_, rfl⟩
                rw [hc] at h5 ⊢
                have hv : Utf8.valid ((c : Nat) : Int) = true := by simp [Utf8.valid]; omega
                have e : enc ((c : Nat) : Int) = [b0, b1, b2, b3] := by
                  simp only [enc, Utf8.encode, hv, if_true, Int.toNat_natCast]
                  rw [if_neg (by omega), if_neg (by omega), if_neg (by omega)]
                  show [_, _, _, _] = _
                  rw [u8 (show 240 + c / 262144 = b0.toNat by omega), u8 (show 128 + c / 4096 % 64 = b1.toNat by omega), u8 (show 128 + c / 64 % 64 = b2.toNat by omega), u8 (show 128 + c % 64 = b3.toNat by omega)]
                simp only [e]; exact ⟨by simp, rfl, hv⟩
              · simp at hb
          · simp at hb

/-- Of a text that is letters: each is one, and their bytes are the text. -/
theorem letters_spec : ∀ (n : Nat) (l : List UInt8) (rs : List Int), l.length ≤ n → letters l = some rs → l = rs.flatMap enc ∧ ∀ r ∈ rs, Utf8.valid r = true := by
  intro n
  induction n with
  | zero =>
    intro l rs h e
    have : l = [] := List.eq_nil_of_length_eq_zero (by omega)
    subst this
    rw [letters_nil] at e; cases e; simp
  | succ n ih =>
    intro l rs h e
    by_cases h0 : l = []
    · subst h0; rw [letters_nil] at e; cases e; simp
    · by_cases hb : (Lib.decodeL l).1 = 65533 ∧ (Lib.decodeL l).2 < 2
      · rw [letters_bad h0 hb] at e; cases e
      · rw [letters_cons h0 hb] at e
        obtain ⟨h1, h2, h3⟩ := dec_enc l h0 hb
        have hw := Lib.decodeL_width l
        have hp : 0 < l.length := List.length_pos_iff.2 h0
        cases hr : letters (l.drop (Lib.decodeL l).2) with
        | none => rw [hr] at e; cases e
        | some r1 =>
          rw [hr] at e; cases e
          obtain ⟨k1, k2⟩ := ih _ r1 (by rw [List.length_drop]; omega) hr
          refine ⟨?_, ?_⟩
          · rw [List.flatMap_cons, ← k1]; exact h1
          · intro r hm
            rcases List.mem_cons.1 hm with rfl | hm
            · exact h3
            · exact k2 r hm
end Go.Proofs.YtcacembpegoghaaDoor
