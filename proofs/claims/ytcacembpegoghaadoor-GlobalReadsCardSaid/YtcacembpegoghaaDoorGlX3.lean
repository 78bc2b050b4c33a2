/-
  The reference's reader of conversations: talk, whatever stands there.
-/
import Derived.Test.YtcacembpegoghaaDoorGlX1
import Derived.Test.YtcacembpegoghaaDoorGlX2
namespace Go.Proofs.YtcacembpegoghaaDoor
open Go.RowKit Go.Proofs

set_option maxRecDepth 100000
theorem gscan_any (l : Str) (b : Nat) (hl : l.length ≤ 2000) : ∀ (n : Nat) (s : St) (w : World), s.p ≤ l.length → (s.bad = none → l.length < n + s.p) → SBox w b l s → Calls Tryd.prog 99 #[.pointer (some ⟨b, 0, none⟩)] w (GAnsR w b l (gscanF l n s)) := by
  intro n
  induction n with
  | zero =>
    intro s w hp hn hR
    obtain ⟨p, bad⟩ := s
    cases bad with
    | none => have := hn rfl; simp only at this hp; omega
    | some q => exact talk_bad l b p w q hR
  | succ n ih =>
    intro s w hp hn hR
    obtain ⟨p, bad⟩ := s
    cases bad with
    | some q => rw [gscanF_bad]; exact talk_bad l b p w q hR
    | none =>
      have hn' : l.length < n + 1 + p := hn rfl
      have hp' : p ≤ l.length := hp
      obtain ⟨W, p1, bad1, hM⟩ : ∃ W p1 bad1, must l isName ⟨p, none⟩ = (W, ⟨p1, bad1⟩) := ⟨_, _, _, rfl⟩
      unfold gscanF
      simp only [hM]
      by_cases h1 : W = endW
      · rw [if_pos h1]; exact talk_end l b p w hl hp' hR W p1 bad1 hM h1
      rw [if_neg h1]
      by_cases h2 : W = recW
      · rw [if_pos h2]; exact talk_rec l b p w hl hp' hR W p1 bad1 hM h2 n ih hn'
      rw [if_neg h2]
      cases bad1 with
      | some q => exact talk_varbad l b p w hl hp' hR W p1 q hM h1 h2
      | none =>
        simp only
        by_cases h3 : pk l (sk l p1) = [62]
        · rw [if_neg (by simpa using h3)]
          cases h4 : isRole W with
          | false => rw [if_pos rfl]; exact talk_norole l b p w hl hp' hR W p1 hM h1 h2 h3 h4
          | true => rw [if_neg (by simp)]; exact talk_pair l b p w hl hp' hR W p1 hM h1 h2 h3 h4 n ih hn'
        · rw [if_pos h3]; exact talk_var l b p w hl hp' hR W p1 hM h1 h2 h3
end Go.Proofs.YtcacembpegoghaaDoor
