/-
  The reference's Must of one sign.
-/
import Derived.Test.YtcacembpegoghaaDoorRdR2
namespace Go.Proofs.YtcacembpegoghaaDoor
open Go.RowKit Go.Proofs

set_option maxRecDepth 100000
theorem must_is (c : Str) (N : Nat) (l : Str) (b p : Nat) (bad : Option Nat) (w : World) (hl : l.length ≤ 2000) (hp : p ≤ l.length) (hR : SBox w b l ⟨p, bad⟩) (hN : N ≠ b) (hc : w.cell? ⟨N, 0, none⟩ = some (.string ⟨c.toArray⟩)) :
    Calls Tryd.prog 179 #[.pointer (some ⟨b, 0, none⟩), isFn ⟨N, 0, none⟩] w fun e w' => e = .returned (.string ⟨(must l (isW c) ⟨p, bad⟩).1.toArray⟩) ∧ w.grownBy w' (some b) ∧ SBox w' b l (must l (isW c) ⟨p, bad⟩).2 :=
  must_any (isW c) 245 #[.pointer (some ⟨N, 0, none⟩)] (fun _ _ => by kernel_rfl) l b p bad w hl hp hR fun x w' _ hg =>
    (Is1_any c x N w' ((Same.grown (D := (· ≠ b)) hg (fun k hk e => hk (by injection e))).cell hN hc)).mono fun _ _ ⟨h1, h2⟩ => ⟨h1, h2 ▸ Below.refl _ _⟩
theorem is_cell (c : Str) (w : World) (E : TypeId) : (w.alloc (.cells #[.string ⟨c.toArray⟩] E)).cell? ⟨w.heap.size, 0, none⟩ = some (.string ⟨c.toArray⟩) := by simp [go_sem]
theorem must_ok {l : Str} {right : Str → Bool} {s : St} (h : (must l right s).2.bad = none) : right (must l right s).1 = true := by
  obtain ⟨p, bad⟩ := s
  cases bad with
  | some b => cases h
  | none =>
    unfold must at h ⊢
    simp only at h ⊢
    split at h
    · cases h
    · rename_i hn
      simp only [not_or] at hn
      rw [if_neg (by simp only [not_or]; exact hn)]
      simpa using hn.2
theorem SBox.keepB {w w' : World} {b B : Nat} {l : Str} {s : St} (h : SBox w b l s) (hb : Below B w w') (hB : b < B) : SBox w' b l s :=
  ⟨(hb.cell (p := ⟨b, 0, none⟩) hB).trans h.c0, (hb.cell (p := ⟨b, 1, none⟩) hB).trans h.c1, (hb.cell (p := ⟨b, 2, none⟩) hB).trans h.c2, (hb.cell (p := ⟨b, 3, none⟩) hB).trans h.c3, (hb.cell (p := ⟨b, 4, none⟩) hB).trans h.c4, fun j => (hb.frozen (p := ⟨b, j, none⟩) hB).trans (h.fr j), Nat.lt_of_lt_of_le h.lt hb.size⟩

end Go.Proofs.YtcacembpegoghaaDoor
