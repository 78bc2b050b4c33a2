/-
  The program's reader of conversations: one, whatever stands there.
-/
import Derived.Test.YtcacembpegoghaaDoorGlO1
import Derived.Test.YtcacembpegoghaaDoorGlO3
namespace Go.Proofs.YtcacembpegoghaaDoor
open Go.RowKit Go.Proofs

set_option maxRecDepth 100000
theorem gone_any (l : Str) (b : Nat) (hl : l.length ≤ 2000) (S : World → Prop) (hSk : ∀ w w' : World, S w → w.grownBy w' (some b) → S w') (hSo : ∀ w : World, S w → GSorts w) : ∀ (n p : Nat) (w : World), p ≤ l.length → l.length < n + p → S w → RBox w b l p →
    Calls Tryd.prog 95 #[.pointer (some ⟨b, 0, none⟩)] w (GAns w b l (gdOne l n p)) := by
  intro n
  induction n with
  | zero => intro p w hp hlt; omega
  | succ n ih =>
    intro p w hp hn hS hR
    unfold gdOne
    cases h0 : isName (wd l (sk l p)) with
    | false => rw [if_pos rfl]; exact gone_bad l b p w hl hp hR h0
    | true =>
    rw [if_neg (by simp)]
    by_cases h1 : wd l (sk l p) = endW
    · rw [if_pos h1]; exact gone_end l b p w hl hp hR h1
    rw [if_neg h1]
    by_cases h2 : wd l (sk l p) = recW
    · rw [if_pos h2]; exact gone_rec l b p w hl hp hR S hSk hS n ih (by omega) h2
    rw [if_neg h2]
    by_cases h3 : l[sk l (sk l p + (wd l (sk l p)).length)]? = some 62
    · rw [if_neg (by simpa using h3)]
      cases h4 : isRole (wd l (sk l p)) with
      | false => rw [if_pos rfl]; exact gone_norole l b p w hl hp hR _ rfl h0 h1 h2 h3 h4
      | true =>
        rw [if_neg (by simp)]
        exact gone_pair l b p w hl hp hR S hSk hS n ih hSo (by omega) _ rfl h0 h1 h2 h3 h4
    · rw [if_pos h3]; exact gone_var l b p w hl hp hR _ rfl h0 h1 h2 h3
end Go.Proofs.YtcacembpegoghaaDoor
