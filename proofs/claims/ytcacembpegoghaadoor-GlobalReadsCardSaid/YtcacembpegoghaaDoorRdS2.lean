/-
  The reference's reader goes on and never back; what Begin and Parse answer.
-/
import Derived.Test.YtcacembpegoghaaDoorRdS
import Derived.Test.YtcacembpegoghaaDoorTyC
namespace Go.Proofs.YtcacembpegoghaaDoor
open Go.RowKit Go.Proofs

section
variable {l : Str}
theorem pk_le {q : Nat} (h : q ≤ l.length) : q + (pk l q).length ≤ l.length := by
  rcases pk_case l q with ⟨_, _, h3⟩ | ⟨x, _, _, _, _, h5⟩ | ⟨x, h1, _, _, h4⟩
  · rw [h3]; simpa using h
  · rw [h5]; exact wd_le h
  · rw [h4]; have := at_lt h1; simp; omega
/-- From s on to s'. -/
def On (l : Str) (d : Nat) (s s' : St) : Prop := s.p ≤ s'.p ∧ s'.p ≤ l.length ∧ (s'.bad = none → s.bad = none ∧ s.p + d ≤ s'.p)
theorem On.refl {s : St} (h : s.p ≤ l.length) : On l 0 s s := ⟨Nat.le_refl _, h, fun h => ⟨h, Nat.le_refl _⟩⟩
theorem On.trans {d d' : Nat} {a b c : St} (h1 : On l d a b) (h2 : On l d' b c) : On l (d + d') a c :=
  ⟨Nat.le_trans h1.1 h2.1, h2.2.1, fun h => by
    have k2 := h2.2.2 h
    have k1 := h1.2.2 k2.1
    exact ⟨k1.1, by omega⟩⟩
theorem On.mono {d d' : Nat} {a b : St} (h : On l d a b) (hd : d' ≤ d) : On l d' a b := ⟨h.1, h.2.1, fun k => ⟨(h.2.2 k).1, by have := (h.2.2 k).2; omega⟩⟩
theorem must_on (right : Str → Bool) {s : St} (h : s.p ≤ l.length) : On l 1 s (must l right s).2 := by
  obtain ⟨p, bad⟩ := s
  have h1 := sk_le (show p ≤ l.length from h)
  have h2 := pk_le h1.2
  cases bad with
  | some b => exact ⟨h1.1, h1.2, fun k => by cases k⟩
  | none =>
    unfold must
    simp only
    split
    · exact ⟨h1.1, h1.2, fun k => by cases k⟩
    · rename_i hne
      simp only [not_or] at hne
      have : (pk l (sk l p)).length ≠ 0 := fun e => hne.1 (List.eq_nil_of_length_eq_zero e)
      exact ⟨by simp only; omega, h2, fun _ => ⟨rfl, by simp only; omega⟩⟩
theorem loop_on {F : St → Ty × St} (hF : ∀ s, s.p ≤ l.length → On l 0 s (F s).2) : ∀ (m : Nat) (s : St) (ls : List Str) (ks : List Ty), s.p ≤ l.length → On l 0 s (loopF l F m s ls ks).2.2 := by
  intro m
  induction m with
  | zero =>
    intro s ls ks h
    obtain ⟨p, bad⟩ := s
    cases bad with
    | none => exact ⟨Nat.le_refl _, h, fun k => by cases k⟩
    | some b => exact ⟨Nat.le_refl _, h, fun k => by cases k⟩
  | succ m ih =>
    intro s ls ks h
    obtain ⟨p, bad⟩ := s
    cases bad with
    | some b => exact ⟨Nat.le_refl _, h, fun k => by cases k⟩
    | none =>
      unfold loopF
      simp only
      have h1 := must_on (labelOk ls) (s := ⟨p, none⟩) h
      have h2 := must_on (isW [58]) h1.2.1
      have h3 := hF _ h2.2.1
      have h4 := must_on (fun w => isW [125] w || isW [44] w) h3.2.1
      have h5 := ((h1.trans h2).trans h3).trans h4
      split
      · exact (h5.trans (ih _ _ _ h4.2.1)).mono (by omega)
      · exact h5.mono (by omega)
theorem passed_on {F : St → Ty × St} (hF : ∀ s, s.p ≤ l.length → On l 0 s (F s).2) (add : Int) {s : St} (h : s.p ≤ l.length) : On l 0 s (scanPassed l F add s).2 := by
  have h1 := sk_le h
  unfold scanPassed
  split
  · rename_i hp
    have h2 := pk_le h1.2
    rw [hp] at h2
    simp only [List.length_cons, List.length_nil] at h2
    have h0 : On l 0 s ⟨sk l s.p + 1, s.bad⟩ := ⟨by simp only; omega, by simp only; omega, fun k => ⟨k, by simp only; omega⟩⟩
    have h3 := hF _ h0.2.1
    have h4 := must_on (isW [125]) h3.2.1
    have h5 := must_on (isW [46]) h4.2.1
    exact ((((h0.trans h3).trans h4).trans h5).trans (hF _ h5.2.1)).mono (by omega)
  · have h0 : On l 0 s ⟨sk l s.p, s.bad⟩ := ⟨h1.1, h1.2, fun k => ⟨k, h1.1⟩⟩
    have h4 := must_on (fun w => decide (0 < sortIx w)) h0.2.1
    have h5 := must_on (isW [46]) h4.2.1
    exact (((h0.trans h4).trans h5).trans (hF _ h5.2.1)).mono (by omega)
theorem scan_on : ∀ (n : Nat) (s : St), s.p ≤ l.length → On l 0 s (scanF l n s).2 := by
  intro n
  induction n with
  | zero =>
    intro s h
    obtain ⟨p, bad⟩ := s
    cases bad with
    | none => exact ⟨Nat.le_refl _, h, fun k => by cases k⟩
    | some b => exact ⟨Nat.le_refl _, h, fun k => by cases k⟩
  | succ n ih =>
    intro s h
    obtain ⟨p, bad⟩ := s
    cases bad with
    | some b => exact ⟨Nat.le_refl _, h, fun k => by cases k⟩
    | none =>
      unfold scanF
      simp only
      have h1 := must_on startOk (s := ⟨p, none⟩) h
      split
      · exact h1.mono (by omega)
      split
      · have h2 := must_on isVar h1.2.1
        have h3 := must_on (isW [46]) h2.2.1
        exact (((h1.trans h2).trans h3).trans (ih _ h3.2.1)).mono (by omega)
      split
      · exact (h1.trans (passed_on ih 0 h1.2.1)).mono (by omega)
      split
      · exact (h1.trans (passed_on ih 1 h1.2.1)).mono (by omega)
      split
      · have h2 := must_on (isW [123]) h1.2.1
        exact ((h1.trans h2).trans (loop_on ih 7 _ [] [] h2.2.1)).mono (by omega)
      split
      · have h2 := must_on (isW [123]) h1.2.1
        exact ((h1.trans h2).trans (loop_on ih 7 _ [] [] h2.2.1)).mono (by omega)
      · exact h1.mono (by omega)
end
/-- What Begin answers: the type, where it ends, the error and its place. -/
def rdBegin (l : Str) (p : Nat) : Ty × Nat × Int × Nat :=
  if 2000 < l.length then (zeroTy, 0, 2, 0)
  else match rdOne l (l.length + 1) p with
    | .bad q => (zeroTy, 0, 3, q)
    | .ok t q => if tyErr t = 0 then (t, sk l q, 0, 0) else (zeroTy, 0, tyErr t, 0)
/-- What Parse answers. -/
def rdParse (l : Str) : Ty × Int × Nat :=
  if (rdBegin l 0).2.2.1 = 0 ∧ (rdBegin l 0).2.1 < l.length then (zeroTy, 3, (rdBegin l 0).2.1) else ((rdBegin l 0).1, (rdBegin l 0).2.2)
/-- What the reference's Begin answers. -/
def scBegin (l : Str) (p : Nat) : Ty × Nat × Int × Nat :=
  if 2000 < l.length then (zeroTy, 0, 2, 0)
  else match (scanF l (l.length + 1) ⟨p, none⟩).2.bad with
    | some q => (zeroTy, 0, 3, q)
    | none => if tyErr (scanF l (l.length + 1) ⟨p, none⟩).1 = 0 then ((scanF l (l.length + 1) ⟨p, none⟩).1, sk l (scanF l (l.length + 1) ⟨p, none⟩).2.p, 0, 0) else (zeroTy, 0, tyErr (scanF l (l.length + 1) ⟨p, none⟩).1, 0)
theorem begin_agree (l : Str) (p : Nat) : scBegin l p = rdBegin l p := by
  unfold scBegin rdBegin
  split
  · rfl
  · have h := scan_agree (l := l) (l.length + 1) p
    cases hr : rdOne l (l.length + 1) p with
    | bad q =>
      rw [hr] at h
      have h' : (scanF l (l.length + 1) ⟨p, none⟩).2.bad = some q := h
      simp only [h']
    | ok t q =>
      rw [hr] at h
      have h' : scanF l (l.length + 1) ⟨p, none⟩ = (t, ⟨q, none⟩) := h
      simp only [h']
end Go.Proofs.YtcacembpegoghaaDoor
