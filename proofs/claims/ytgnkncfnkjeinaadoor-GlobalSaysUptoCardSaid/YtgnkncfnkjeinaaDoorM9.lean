/-
  The plain law of reading a type: what the program's reader takes off a text (rdOne), what the reference's takes (scanF), and that they agree.
  The reference's reader goes on and never back; what Begin and Parse answer.
-/
import Derived.Test.YtgnkncfnkjeinaaDoorM4
import Derived.Test.YtgnkncfnkjeinaaDoorM3
import Derived.Test.YtgnkncfnkjeinaaDoorM5
namespace Go.Proofs.YtgnkncfnkjeinaaDoor
open Go.RowKit Go.Proofs

def lowb (b : UInt8) : Bool := decide (97 ≤ b.toNat) && decide (b.toNat ≤ 122)
/-- Behind the blanks. -/
def sk (l : Str) (p : Nat) : Nat := p + ((l.drop p).takeWhile (· == 32)).length
/-- The word that stands there. -/
def wd (l : Str) (p : Nat) : Str := (l.drop p).takeWhile lowb
/-- What reading ends with: what was read and where it goes on, or where it failed. -/
inductive Rd (α : Type) where
  | ok (a : α) (p : Nat)
  | bad (p : Nat)
/-- One thing behind the other. -/
def Rd.seq {α β : Type} (r : Rd α) (f : α → Nat → Rd β) : Rd β := match r with
  | .ok a p => f a p
  | .bad q => .bad q
theorem Rd.seq_ok {α β : Type} (a : α) (p : Nat) (f : α → Nat → Rd β) : (Rd.ok a p).seq f = f a p := rfl
theorem Rd.seq_bad {α β : Type} (q : Nat) (f : α → Nat → Rd β) : (Rd.bad q : Rd α).seq f = .bad q := rfl
def rdSign (l : Str) (c : UInt8) (p : Nat) : Rd Unit := if l[sk l p]? = some c then .ok () (sk l p + 1) else .bad (sk l p)
/-- Which sort a word names; 0: none. -/
def sortIx (w : Str) : Int := if w = [105, 110, 116] then 1 else if w = [98, 111, 111, 108] then 2 else if w = [116, 101, 120, 116] then 3 else 0
/-- May a word be the next label? -/
def labelOk (ls : List Str) (w : Str) : Bool := isName w && decide (ls.length < 6) && behind ls.getLast? w

def rdPassed (l : Str) (f : Nat → Rd Ty) (add : Int) (p : Nat) : Rd Ty :=
  if l[sk l p]? = some 123 then
    (f (sk l p + 1)).seq fun t p1 => (rdSign l 125 p1).seq fun _ p2 => (rdSign l 46 p2).seq fun _ p3 => (f p3).seq fun u p4 => .ok (.mk (4 + add) 0 [] [] [t, u]) p4
  else if sortIx (wd l (sk l p)) = 0 then .bad (sk l p)
  else (rdSign l 46 (sk l p + (wd l (sk l p)).length)).seq fun _ p2 => (f p2).seq fun t p3 => .ok (.mk (2 + add) (sortIx (wd l (sk l p))) [] [] [t]) p3
def rdChoice (l : Str) (f : Nat → Rd Ty) : Nat → Nat → List Str → List Ty → Rd (List Str × List Ty)
  | 0, p, _, _ => .bad p
  | m + 1, p, ls, ks =>
    if labelOk ls (wd l (sk l p)) = false then .bad (sk l p)
    else (rdSign l 58 (sk l p + (wd l (sk l p)).length)).seq fun _ p2 => (f p2).seq fun t p3 =>
      if l[sk l p3]? = some 125 then .ok (ls ++ [wd l (sk l p)], ks ++ [t]) (sk l p3 + 1)
      else if l[sk l p3]? = some 44 then rdChoice l f m (sk l p3 + 1) (ls ++ [wd l (sk l p)]) (ks ++ [t])
      else .bad (sk l p3)
def endW : Str := [101, 110, 100]
def recW : Str := [114, 101, 99]
/-- One type, off a text at a place. -/
def rdOne (l : Str) : Nat → Nat → Rd Ty
  | 0, p => .bad p
  | n + 1, p =>
    if wd l (sk l p) = endW then .ok (.mk 1 0 [] [] []) (sk l p + 3)
    else if wd l (sk l p) = recW then
      if isVar (wd l (sk l (sk l p + 3))) = false then .bad (sk l (sk l p + 3))
      else (rdSign l 46 (sk l (sk l p + 3) + (wd l (sk l (sk l p + 3))).length)).seq fun _ p2 => (rdOne l n p2).seq fun t p3 => .ok (.mk 8 0 (wd l (sk l (sk l p + 3))) [] [t]) p3
    else if isVar (wd l (sk l p)) = true then .ok (.mk 9 0 (wd l (sk l p)) [] []) (sk l p + (wd l (sk l p)).length)
    else if wd l (sk l p) ≠ [] then .bad (sk l p)
    else if l[sk l p]? = some 33 then rdPassed l (rdOne l n) 0 (sk l p + 1)
    else if l[sk l p]? = some 63 then rdPassed l (rdOne l n) 1 (sk l p + 1)
    else if l[sk l p]? = some 43 then (rdSign l 123 (sk l p + 1)).seq fun _ p2 => (rdChoice l (rdOne l n) 7 p2 [] []).seq fun x p3 => .ok (.mk 6 0 [] x.1 x.2) p3
    else if l[sk l p]? = some 38 then (rdSign l 123 (sk l p + 1)).seq fun _ p2 => (rdChoice l (rdOne l n) 7 p2 [] []).seq fun x p3 => .ok (.mk 7 0 [] x.1 x.2) p3
    else .bad (sk l p)

/-- The reference's reader: where it is, and where it failed. -/
structure St where
  p : Nat
  bad : Option Nat
/-- The word or sign that stands there. -/
def pk (l : Str) (q : Nat) : Str := if wd l q = [] then (l.drop q).take 1 else wd l q
def must (l : Str) (right : Str → Bool) (s : St) : Str × St := match s.bad with
  | some b => ([], ⟨sk l s.p, some b⟩)
  | none => if pk l (sk l s.p) = [] ∨ right (pk l (sk l s.p)) = false then ([], ⟨sk l s.p, some (sk l s.p)⟩) else (pk l (sk l s.p), ⟨sk l s.p + (pk l (sk l s.p)).length, none⟩)
def isW (c : Str) (w : Str) : Bool := decide (w = c)
def loopF (l : Str) (F : St → Ty × St) : Nat → St → List Str → List Ty → List Str × List Ty × St
  | 0, s, ls, ks => (ls, ks, ⟨s.p, some (s.bad.getD s.p)⟩)
  | m + 1, s, ls, ks => match s.bad with
    | some b => (ls, ks, ⟨s.p, some b⟩)
    | none =>
      let a := must l (labelOk ls) s
      let b := must l (isW [58]) a.2
      let c := F b.2
      let d := must l (fun w => isW [125] w || isW [44] w) c.2
      if d.1 = [44] then loopF l F m d.2 (ls ++ [a.1]) (ks ++ [c.1]) else (ls ++ [a.1], ks ++ [c.1], d.2)
def zeroTy : Ty := .mk 0 0 [] [] []
def startOk (w : Str) : Bool := isW endW w || isW recW w || isVar w || isW [33] w || isW [63] w || isW [43] w || isW [38] w
def scanPassed (l : Str) (F : St → Ty × St) (add : Int) (s : St) : Ty × St :=
  if pk l (sk l s.p) = [123] then
    let a := F ⟨sk l s.p + 1, s.bad⟩
    let b := must l (isW [125]) a.2
    let c := must l (isW [46]) b.2
    let d := F c.2
    (.mk (4 + add) 0 [] [] [a.1, d.1], d.2)
  else
    let a := must l (fun w => decide (0 < sortIx w)) ⟨sk l s.p, s.bad⟩
    let b := must l (isW [46]) a.2
    let c := F b.2
    (.mk (2 + add) (sortIx a.1) [] [] [c.1], c.2)
def scanF (l : Str) : Nat → St → Ty × St
  | 0, s => (zeroTy, ⟨s.p, some (s.bad.getD s.p)⟩)
  | n + 1, s => match s.bad with
    | some b => (zeroTy, ⟨s.p, some b⟩)
    | none =>
      let a := must l startOk s
      if a.1 = endW then (.mk 1 0 [] [] [], a.2)
      else if a.1 = recW then
        let b := must l isVar a.2
        let c := must l (isW [46]) b.2
        let d := scanF l n c.2
        (.mk 8 0 b.1 [] [d.1], d.2)
      else if a.1 = [33] then scanPassed l (scanF l n) 0 a.2
      else if a.1 = [63] then scanPassed l (scanF l n) 1 a.2
      else if a.1 = [43] then
        let b := must l (isW [123]) a.2
        let c := loopF l (scanF l n) 7 b.2 [] []
        (.mk 6 0 [] c.1 c.2.1, c.2.2)
      else if a.1 = [38] then
        let b := must l (isW [123]) a.2
        let c := loopF l (scanF l n) 7 b.2 [] []
        (.mk 7 0 [] c.1 c.2.1, c.2.2)
      else (.mk 9 0 a.1 [] [], a.2)

theorem tw_len (p : UInt8 → Bool) (l : Str) : (l.takeWhile p).length ≤ l.length := (List.takeWhile_sublist p).length_le
theorem sk_le {l : Str} {p : Nat} (h : p ≤ l.length) : p ≤ sk l p ∧ sk l p ≤ l.length := by
  unfold sk
  have h1 := tw_len (· == (32 : UInt8)) (l.drop p)
  rw [List.length_drop] at h1
  omega
theorem wd_le {l : Str} {q : Nat} (h : q ≤ l.length) : q + (wd l q).length ≤ l.length := by
  unfold wd
  have h1 := tw_len lowb (l.drop q)
  rw [List.length_drop] at h1
  omega
theorem tw_skip (p : UInt8 → Bool) : ∀ l : Str, (l.drop (l.takeWhile p).length).takeWhile p = [] := by
  intro l
  induction l with
  | nil => rfl
  | cons x l ih =>
    by_cases h : p x = true
    · simp [List.takeWhile_cons, h, ih]
    · simp [List.takeWhile_cons, h]
theorem sk_sk (l : Str) (p : Nat) : sk l (sk l p) = sk l p := by
  have h : l.drop (sk l p) = (l.drop p).drop ((l.drop p).takeWhile (· == 32)).length := by rw [List.drop_drop]; rfl
  have h2 : sk l (sk l p) = sk l p + ((l.drop (sk l p)).takeWhile (· == 32)).length := rfl
  rw [h2, h, tw_skip]
  rfl
theorem drop_at {l : Str} {q : Nat} {x : UInt8} (h : l[q]? = some x) : l.drop q = x :: l.drop (q + 1) := by
  obtain ⟨h1, h2⟩ := List.getElem?_eq_some_iff.1 h
  rw [List.drop_eq_getElem_cons h1, h2]
theorem drop_no {l : Str} {q : Nat} (h : l[q]? = none) : l.drop q = [] := List.drop_eq_nil_of_le (by simpa using h)
theorem at_lt {l : Str} {q : Nat} {x : UInt8} (h : l[q]? = some x) : q < l.length := (List.getElem?_eq_some_iff.1 h).1
/-- What stands there: nothing, a letter, or a sign. -/
theorem pk_case (l : Str) (q : Nat) : (l[q]? = none ∧ wd l q = [] ∧ pk l q = []) ∨ (∃ x, l[q]? = some x ∧ lowb x = true ∧ wd l q ≠ [] ∧ (wd l q).head? = some x ∧ pk l q = wd l q) ∨ ∃ x, l[q]? = some x ∧ lowb x = false ∧ wd l q = [] ∧ pk l q = [x] := by
  cases h : l[q]? with
  | none => left; simp [wd, pk, drop_no h]
  | some x =>
    right
    cases hx : lowb x with
    | true =>
      left
      have hw : wd l q = x :: (l.drop (q + 1)).takeWhile lowb := by simp [wd, drop_at h, List.takeWhile_cons, hx]
      exact ⟨x, rfl, hx, by rw [hw]; simp, by rw [hw]; rfl, by simp [pk, hw]⟩
    | false =>
      right
      have hw : wd l q = [] := by simp [wd, drop_at h, List.takeWhile_cons, hx]
      exact ⟨x, rfl, hx, hw, by simp [pk, hw, drop_at h]⟩
theorem must_bad (l : Str) (right : Str → Bool) (p b : Nat) : must l right ⟨p, some b⟩ = ([], ⟨sk l p, some b⟩) := rfl
/-- A sign. -/
theorem must_sign (l : Str) (c : UInt8) (hc : lowb c = false) (p : Nat) : must l (isW [c]) ⟨p, none⟩ = if l[sk l p]? = some c then ([c], ⟨sk l p + 1, none⟩) else ([], ⟨sk l p, some (sk l p)⟩) := by
  unfold must
  simp only
  rcases pk_case l (sk l p) with ⟨h1, _, h3⟩ | ⟨x, h1, h2, h3, h4, h5⟩ | ⟨x, h1, h2, _, h4⟩
  · simp [h1, h3]
  · have hne : x ≠ c := by rintro rfl; rw [hc] at h2; cases h2
    have hw : wd l (sk l p) ≠ [c] := by intro e; rw [e] at h4; simp at h4; exact hne h4.symm
    simp [h1, h5, isW, hne, hw]
  · by_cases hxc : x = c
    · subst hxc; simp [h1, h4, isW]
    · simp [h1, h4, isW, hxc]
/-- A word of letters. -/
theorem must_word (l : Str) (right : Str → Bool) (hr : ∀ w, right w = true → w ≠ [] ∧ low w = true) (p : Nat) :
    must l right ⟨p, none⟩ = if right (wd l (sk l p)) = true then (wd l (sk l p), ⟨sk l p + (wd l (sk l p)).length, none⟩) else ([], ⟨sk l p, some (sk l p)⟩) := by
  unfold must
  simp only
  have h0 : right [] = false := by
    cases h : right [] with
    | false => rfl
    | true => exact absurd rfl (hr _ h).1
  rcases pk_case l (sk l p) with ⟨_, h2, h3⟩ | ⟨x, h1, h2, h3, h4, h5⟩ | ⟨x, h1, h2, h3, h4⟩
  · simp [h2, h3, h0]
  · cases hw : right (wd l (sk l p)) <;> simp [h5, h3, hw]
  · have hx : right [x] = false := by
      cases h : right [x] with
      | false => rfl
      | true =>
        have := (hr _ h).2
        simp only [low, List.all_cons, List.all_nil, Bool.and_true] at this
        rw [lowb, this] at h2
        cases h2
    simp [h3, h4, h0, hx]
theorem isVar_low {w : Str} (h : isVar w = true) : w ≠ [] ∧ low w = true := by
  simp only [isVar, isName, small, Bool.and_eq_true, decide_eq_true_eq] at h
  exact ⟨by intro e; rw [e] at h; simp at h, h.1.1.1.1⟩
theorem isName_low {w : Str} (h : isName w = true) : w ≠ [] ∧ low w = true := by
  simp only [isName, small, Bool.and_eq_true, decide_eq_true_eq] at h
  exact ⟨by intro e; rw [e] at h; simp at h, h.1.1.1⟩
theorem sortIx_low {w : Str} (h : sortIx w ≠ 0) : w ≠ [] ∧ low w = true := by
  unfold sortIx at h
  split at h
  · subst_vars; decide
  split at h
  · subst_vars; decide
  split at h
  · subst_vars; decide
  · exact absurd rfl h
theorem sortIx_nonneg (w : Str) : 0 ≤ sortIx w ∧ sortIx w ≤ 3 := by
  unfold sortIx
  repeat' split
  all_goals decide
theorem labelOk_low {ls : List Str} {w : Str} (h : labelOk ls w = true) : w ≠ [] ∧ low w = true := by
  simp only [labelOk, Bool.and_eq_true] at h
  exact isName_low h.1.1

def Agrees {α : Type} (r : Rd α) (x : α × St) : Prop := match r with
  | .ok a p => x = (a, ⟨p, none⟩)
  | .bad q => x.2.bad = some q
theorem scanF_bad (l : Str) (n p b : Nat) : scanF l n ⟨p, some b⟩ = (zeroTy, ⟨p, some b⟩) := by cases n <;> rfl
theorem loopF_bad (l : Str) (F : St → Ty × St) (m p b : Nat) (ls : List Str) (ks : List Ty) : loopF l F m ⟨p, some b⟩ ls ks = (ls, ks, ⟨p, some b⟩) := by cases m <;> rfl

/-- What a reader hands on lies behind where it began. -/
def Took (l : Str) {α : Type} (p : Nat) (r : Rd α) : Prop := match r with
  | .ok _ q => p ≤ q ∧ q ≤ l.length
  | .bad q => p ≤ q ∧ q ≤ l.length
/-- What was read is so. -/
def Has {α : Type} (P : α → Prop) (r : Rd α) : Prop := match r with
  | .ok a _ => P a
  | .bad _ => True
section
variable {l : Str} {f : Nat → Rd Ty} {F : St → Ty × St}
theorem Took.mono {α : Type} {p p' : Nat} {r : Rd α} (h : Took l p r) (hp : p' ≤ p) : Took l p' r := by
  cases r with
  | ok a q => exact ⟨Nat.le_trans hp h.1, h.2⟩
  | bad q => exact ⟨Nat.le_trans hp h.1, h.2⟩
theorem rdSign_took (c : UInt8) {p : Nat} (hp : p ≤ l.length) : Took l p (rdSign l c p) := by
  unfold rdSign
  have h1 := sk_le hp
  split
  · rename_i h
    have := at_lt h
    exact ⟨by omega, by omega⟩
  · exact h1
theorem Took.seq {α β : Type} {p : Nat} {r : Rd α} {g : α → Nat → Rd β} (h : Took l p r) (hg : ∀ a q, p ≤ q → q ≤ l.length → Took l q (g a q)) : Took l p (r.seq g) := by
  cases r with
  | ok a q => exact (hg a q h.1 h.2).mono h.1
  | bad q => exact h
theorem Has.seq {α β : Type} {P : α → Prop} {Q : β → Prop} {r : Rd α} {g : α → Nat → Rd β} (h : Has P r) (hg : ∀ a q, P a → Has Q (g a q)) : Has Q (r.seq g) := by
  cases r with
  | ok a q => exact hg a q h
  | bad q => trivial
theorem Has.any {α : Type} (r : Rd α) : Has (fun _ => True) r := by cases r <;> trivial

theorem rdPassed_took (hf : ∀ p, p ≤ l.length → Took l p (f p)) (add : Int) {p : Nat} (hp : p ≤ l.length) : Took l p (rdPassed l f add p) := by
  unfold rdPassed
  have h1 := sk_le hp
  split
  · rename_i h
    have h2 := at_lt h
    refine (((hf _ (by omega)).mono (p' := sk l p) (by omega)).seq fun t p1 _ k1 => ?_).mono h1.1
    exact (rdSign_took 125 k1).seq fun _ p2 _ k2 => (rdSign_took 46 k2).seq fun _ p3 _ k3 => (hf p3 k3).seq fun u p4 _ k4 => ⟨Nat.le_refl _, k4⟩
  · split
    · exact h1
    · have h3 := wd_le h1.2
      refine (((rdSign_took 46 h3).seq fun _ p2 _ k2 => (hf p2 k2).seq fun t p3 _ k3 => ?_)).mono (by omega)
      exact ⟨Nat.le_refl _, k3⟩
theorem rdChoice_took (hf : ∀ p, p ≤ l.length → Took l p (f p)) : ∀ (m p : Nat) (ls : List Str) (ks : List Ty), p ≤ l.length → Took l p (rdChoice l f m p ls ks) := by
  intro m
  induction m with
  | zero => intro p ls ks hp; exact ⟨Nat.le_refl _, hp⟩
  | succ m ih =>
    intro p ls ks hp
    have h1 := sk_le hp
    have h3 := wd_le h1.2
    unfold rdChoice
    split
    · exact h1
    · refine (((rdSign_took 58 h3).seq fun _ p2 _ k2 => (hf p2 k2).seq fun t p3 _ k3 => ?_)).mono (by omega)
      have h4 := sk_le k3
      split
      · rename_i h; have := at_lt h; exact ⟨by omega, by omega⟩
      split
      · rename_i h; have := at_lt h
        exact (ih _ _ _ (by omega)).mono (by omega)
      · exact h4
theorem rdOne_took : ∀ (n p : Nat), p ≤ l.length → Took l p (rdOne l n p) := by
  intro n
  induction n with
  | zero => intro p hp; exact ⟨Nat.le_refl _, hp⟩
  | succ n ih =>
    intro p hp
    have h1 := sk_le hp
    have h3 := wd_le h1.2
    unfold rdOne
    split
    · rename_i h; rw [h] at h3; simp [endW] at h3; exact ⟨by omega, h3⟩
    split
    · rename_i h; rw [h] at h3; simp [recW] at h3
      have h4 := sk_le h3
      have h5 := wd_le h4.2
      split
      · exact ⟨by omega, h4.2⟩
      · refine (((rdSign_took 46 h5).seq fun _ p2 _ k2 => (ih p2 k2).seq fun t p3 _ k3 => ?_)).mono (by omega)
        exact ⟨Nat.le_refl _, k3⟩
    split
    · exact ⟨by omega, h3⟩
    split
    · exact h1
    split
    · rename_i h; have := at_lt h; exact (rdPassed_took ih 0 (by omega)).mono (by omega)
    split
    · rename_i h; have := at_lt h; exact (rdPassed_took ih 1 (by omega)).mono (by omega)
    split
    · rename_i h; have := at_lt h
      refine ((rdSign_took 123 (p := sk l p + 1) (by omega)).seq fun _ p2 _ k2 => ((rdChoice_took ih 7 p2 [] [] k2).seq fun x p3 _ k3 => ?_)).mono (by omega)
      exact ⟨Nat.le_refl _, k3⟩
    split
    · rename_i h; have := at_lt h
      refine ((rdSign_took 123 (p := sk l p + 1) (by omega)).seq fun _ p2 _ k2 => ((rdChoice_took ih 7 p2 [] [] k2).seq fun x p3 _ k3 => ?_)).mono (by omega)
      exact ⟨Nat.le_refl _, k3⟩
    · exact h1

theorem wd_len (l : Str) (q : Nat) : (wd l q).length ≤ l.length := by
  unfold wd
  have h1 := tw_len lowb (l.drop q)
  rw [List.length_drop] at h1
  omega
theorem fit_of (hl : l.length ≤ maxLen) (k s : Int) (hk : 0 ≤ k ∧ k ≤ 9) (hs : 0 ≤ s ∧ s ≤ 3) (n : Str) (hn : n.length ≤ l.length) (ls : List Str) (h1 : ls.length ≤ 7) (h2 : ∀ x ∈ ls, x.length ≤ l.length) (ks : List Ty) (h3 : ks.length ≤ 7) (h4 : ∀ t ∈ ks, Fit t) : Fit (.mk k s n ls ks) := by
  have h7 : 7 ≤ maxLen := by decide
  refine .mk k s n ls ks ?_ ?_ (by omega) (by omega) (fun x hx => Nat.le_trans (h2 x hx) hl) (by omega) h4
  · simp only [Lit.wf, Bool.and_eq_true, decide_eq_true_eq]
    have hmin : IntKind.i64.min = -9223372036854775808 := rfl
    have hmax : IntKind.i64.max = 9223372036854775807 := rfl
    omega
  · simp only [Lit.wf, Bool.and_eq_true, decide_eq_true_eq]
    have hmin : IntKind.i64.min = -9223372036854775808 := rfl
    have hmax : IntKind.i64.max = 9223372036854775807 := rfl
    omega
theorem rdPassed_fit (hl : l.length ≤ maxLen) (hf : ∀ p, Has Fit (f p)) (add : Int) (ha : 0 ≤ add ∧ add ≤ 1) (p : Nat) : Has Fit (rdPassed l f add p) := by
  unfold rdPassed
  split
  · refine (hf _).seq fun t p1 ht => (Has.any _).seq fun _ p2 _ => (Has.any _).seq fun _ p3 _ => (hf p3).seq fun u p4 hu => ?_
    exact fit_of hl _ _ (by omega) (by omega) _ (by simp) _ (by simp) (by simp) _ (by simp) (by simp; exact ⟨ht, hu⟩)
  · split
    · trivial
    · refine (Has.any _).seq fun _ p2 _ => (hf p2).seq fun t p3 ht => ?_
      exact fit_of hl _ _ (by omega) (sortIx_nonneg _) _ (by simp) _ (by simp) (by simp) _ (by simp) (by simp; exact ht)
theorem rdChoice_fit (hf : ∀ p, Has Fit (f p)) : ∀ (m p : Nat) (ls : List Str) (ks : List Ty), ls.length + m = 7 → ks.length = ls.length → (∀ x ∈ ls, x.length ≤ l.length) → (∀ t ∈ ks, Fit t) →
    Has (fun x => x.1.length ≤ 7 ∧ x.2.length = x.1.length ∧ (∀ y ∈ x.1, y.length ≤ l.length) ∧ ∀ t ∈ x.2, Fit t) (rdChoice l f m p ls ks) := by
  intro m
  induction m with
  | zero => intro p ls ks _ _ _ _; trivial
  | succ m ih =>
    intro p ls ks h1 h2 h3 h4
    unfold rdChoice
    split
    · trivial
    · refine (Has.any _).seq fun _ p2 _ => (hf p2).seq fun t p3 ht => ?_
      have e3 : ∀ x ∈ ls ++ [wd l (sk l p)], x.length ≤ l.length := by
        intro x hx
        rcases List.mem_append.1 hx with hx | hx
        · exact h3 x hx
        · rw [List.mem_singleton.1 hx]; exact wd_len _ _
      have e4 : ∀ x ∈ ks ++ [t], Fit x := by
        intro x hx
        rcases List.mem_append.1 hx with hx | hx
        · exact h4 x hx
        · rw [List.mem_singleton.1 hx]; exact ht
      split
      · exact ⟨by simp; omega, by simp [h2], e3, e4⟩
      split
      · exact ih _ _ _ (by simp; omega) (by simp [h2]) e3 e4
      · trivial
theorem rdOne_fit (hl : l.length ≤ maxLen) : ∀ (n p : Nat), Has Fit (rdOne l n p) := by
  intro n
  induction n with
  | zero => intro p; trivial
  | succ n ih =>
    intro p
    unfold rdOne
    split
    · exact fit_of hl _ _ (by omega) (by omega) _ (by simp) _ (by simp) (by simp) _ (by simp) (by simp)
    split
    · split
      · trivial
      · refine (Has.any _).seq fun _ p2 _ => (ih p2).seq fun t p3 ht => ?_
        exact fit_of hl _ _ (by omega) (by omega) _ (wd_len _ _) _ (by simp) (by simp) _ (by simp) (by simp; exact ht)
    split
    · exact fit_of hl _ _ (by omega) (by omega) _ (wd_len _ _) _ (by simp) (by simp) _ (by simp) (by simp)
    split
    · trivial
    split
    · exact rdPassed_fit hl ih 0 (by omega) _
    split
    · exact rdPassed_fit hl ih 1 (by omega) _
    split
    · refine (Has.any _).seq fun _ p2 _ => (rdChoice_fit ih 7 p2 [] [] rfl rfl (by simp) (by simp)).seq fun x p3 hx => ?_
      exact fit_of hl _ _ (by omega) (by omega) _ (by simp) _ hx.1 hx.2.2.1 _ (by omega) hx.2.2.2
    split
    · refine (Has.any _).seq fun _ p2 _ => (rdChoice_fit ih 7 p2 [] [] rfl rfl (by simp) (by simp)).seq fun x p3 hx => ?_
      exact fit_of hl _ _ (by omega) (by omega) _ (by simp) _ hx.1 hx.2.2.1 _ (by omega) hx.2.2.2
    · trivial

theorem pk_sign (l : Str) (q : Nat) (c : UInt8) (hc : lowb c = false) : (pk l q = [c]) ↔ l[q]? = some c := by
  rcases pk_case l q with ⟨h1, _, h3⟩ | ⟨x, h1, h2, h3, h4, h5⟩ | ⟨x, h1, h2, _, h4⟩
  · simp [h1, h3]
  · have hne : x ≠ c := by rintro rfl; rw [hc] at h2; cases h2
    have hw : wd l q ≠ [c] := by intro e; rw [e] at h4; simp at h4; exact hne h4.symm
    simp [h1, h5, hne, hw]
  · simp [h1, h4]
/-- The reader of one sign, and what goes on behind it. -/
theorem sign_agree {α : Type} {c : UInt8} (hc : lowb c = false) {p : Nat} {g : Unit → Nat → Rd α} {G : St → α × St}
    (h1 : ∀ q, Agrees (g () q) (G ⟨q, none⟩)) (h2 : ∀ q b, (G ⟨q, some b⟩).2.bad = some b) : Agrees ((rdSign l c p).seq g) (G (must l (isW [c]) ⟨p, none⟩).2) := by
  rw [must_sign l c hc]
  unfold rdSign
  split
  · exact h1 _
  · exact h2 _ _
theorem one_agree {α : Type} {r : Rd Ty} {x : Ty × St} {g : Ty → Nat → Rd α} {G : Ty → St → α × St}
    (h : Agrees r x) (h1 : ∀ t q, r = .ok t q → Agrees (g t q) (G t ⟨q, none⟩)) (h2 : ∀ t q b, (G t ⟨q, some b⟩).2.bad = some b) : Agrees (r.seq g) (G x.1 x.2) := by
  cases r with
  | ok t q =>
    have h' : x = (t, ⟨q, none⟩) := h
    rw [h']
    exact h1 t q rfl
  | bad q =>
    have h' : x.2.bad = some q := h
    obtain ⟨t, p, b⟩ := x
    simp only at h'
    subst h'
    exact h2 t p q
theorem last_agree {c : UInt8} (hc : lowb c = false) (hF : ∀ p b, F ⟨p, some b⟩ = (zeroTy, ⟨p, some b⟩)) (ha : ∀ p, Agrees (f p) (F ⟨p, none⟩)) (T : Ty → Ty) (p : Nat) :
    Agrees ((rdSign l c p).seq fun _ p3 => (f p3).seq fun u p4 => .ok (T u) p4) (T (F (must l (isW [c]) ⟨p, none⟩).2).1, (F (must l (isW [c]) ⟨p, none⟩).2).2) := by
  refine sign_agree (g := fun _ p3 => (f p3).seq fun u p4 => .ok (T u) p4) (G := fun s => (T (F s).1, (F s).2)) hc (fun q => ?_) (fun q b => by simp [hF])
  exact one_agree (g := fun u p4 => .ok (T u) p4) (G := fun u s => (T u, s)) (ha q) (fun u q2 _ => rfl) (fun u q2 b => rfl)
theorem passed_agree (hF : ∀ p b, F ⟨p, some b⟩ = (zeroTy, ⟨p, some b⟩)) (ha : ∀ p, Agrees (f p) (F ⟨p, none⟩)) (add : Int) (p : Nat) : Agrees (rdPassed l f add p) (scanPassed l F add ⟨p, none⟩) := by
  unfold rdPassed scanPassed
  simp only [pk_sign l _ 123 (by decide)]
  split
  · refine one_agree (g := fun t p1 => (rdSign l 125 p1).seq fun _ p2 => (rdSign l 46 p2).seq fun _ p3 => (f p3).seq fun u p4 => .ok (.mk (4 + add) 0 [] [] [t, u]) p4)
      (G := fun t s => (Ty.mk (4 + add) 0 [] [] [t, (F (must l (isW [46]) (must l (isW [125]) s).2).2).1], (F (must l (isW [46]) (must l (isW [125]) s).2).2).2)) (ha _) (fun t q _ => ?_) (fun t q b => by simp [must_bad, hF])
    refine sign_agree (g := fun _ p2 => (rdSign l 46 p2).seq fun _ p3 => (f p3).seq fun u p4 => .ok (.mk (4 + add) 0 [] [] [t, u]) p4)
      (G := fun s => (Ty.mk (4 + add) 0 [] [] [t, (F (must l (isW [46]) s).2).1], (F (must l (isW [46]) s).2).2)) (by decide) (fun q2 => ?_) (fun q2 b => by simp [must_bad, hF])
    exact last_agree (by decide) hF ha (fun u => .mk (4 + add) 0 [] [] [t, u]) q2
  · rw [must_word l _ (fun w hw => sortIx_low (by simp only [decide_eq_true_eq] at hw; omega))]
    rw [sk_sk]
    by_cases h0 : sortIx (wd l (sk l p)) = 0
    · rw [if_pos h0, if_neg (by simp [h0])]
      simp [must_bad, hF, Agrees]
    · have := sortIx_nonneg (wd l (sk l p))
      rw [if_neg h0, if_pos (by simp; omega)]
      exact last_agree (by decide) hF ha (fun t => .mk (2 + add) (sortIx (wd l (sk l p))) [] [] [t]) _
theorem loop_agree (hF : ∀ p b, F ⟨p, some b⟩ = (zeroTy, ⟨p, some b⟩)) (ha : ∀ p, Agrees (f p) (F ⟨p, none⟩)) (K : Int) : ∀ (m p : Nat) (ls : List Str) (ks : List Ty),
    Agrees ((rdChoice l f m p ls ks).seq fun x p3 => .ok (Ty.mk K 0 [] x.1 x.2) p3) (Ty.mk K 0 [] (loopF l F m ⟨p, none⟩ ls ks).1 (loopF l F m ⟨p, none⟩ ls ks).2.1, (loopF l F m ⟨p, none⟩ ls ks).2.2) := by
  intro m
  induction m with
  | zero => intro p ls ks; rfl
  | succ m ih =>
    intro p ls ks
    unfold rdChoice loopF
    simp only
    rw [must_word l (labelOk ls) (fun w hw => labelOk_low hw)]
    cases hw : labelOk ls (wd l (sk l p)) with
    | false => simp [must_bad, hF, Agrees, Rd.seq_bad]
    | true =>
      simp only [if_true, Bool.true_eq_false, if_false]
      rw [must_sign l 58 (by decide)]
      unfold rdSign
      split
      · simp only [Rd.seq_ok]
        have h := ha (sk l (sk l p + (wd l (sk l p)).length) + 1)
        cases hr : f (sk l (sk l p + (wd l (sk l p)).length) + 1) with
        | bad q =>
          rw [hr] at h
          simp only [Rd.seq_bad]
          generalize F ⟨sk l (sk l p + (wd l (sk l p)).length) + 1, none⟩ = x at h ⊢
          obtain ⟨t, p', b⟩ := x
          have h' : b = some q := h
          subst h'
          simp [must_bad, Agrees]
        | ok t p3 =>
          rw [hr] at h
          have h' : F ⟨sk l (sk l p + (wd l (sk l p)).length) + 1, none⟩ = (t, ⟨p3, none⟩) := h
          rw [h']
          simp only [Rd.seq_ok]
          rcases pk_case l (sk l p3) with ⟨k1, _, k3⟩ | ⟨x, k1, k2, k3, k4, k5⟩ | ⟨x, k1, k2, _, k4⟩
          · simp [must, k1, k3, Agrees, Rd.seq_bad]
          · have n1 : x ≠ 125 := by rintro rfl; exact absurd k2 (by decide)
            have n2 : x ≠ 44 := by rintro rfl; exact absurd k2 (by decide)
            have w1 : wd l (sk l p3) ≠ [125] := by intro e; rw [e] at k4; simp at k4; exact n1 k4.symm
            have w2 : wd l (sk l p3) ≠ [44] := by intro e; rw [e] at k4; simp at k4; exact n2 k4.symm
            simp [must, k1, k5, k3, isW, n1, n2, w1, w2, Agrees, Rd.seq_bad]
          · by_cases e1 : x = 125
            · subst e1
              simp [must, k1, k4, isW, Agrees, Rd.seq_ok]
            · by_cases e2 : x = 44
              · subst e2
                have := ih (sk l p3 + 1) (ls ++ [wd l (sk l p)]) (ks ++ [t])
                simpa [must, k1, k4, isW] using this
              · simp [must, k1, k4, isW, e1, e2, Agrees, Rd.seq_bad]
      · simp [must_bad, hF, Agrees, Rd.seq_bad]
theorem must_start (p : Nat) : must l startOk ⟨p, none⟩ = if startOk (pk l (sk l p)) = true then (pk l (sk l p), ⟨sk l p + (pk l (sk l p)).length, none⟩) else ([], ⟨sk l p, some (sk l p)⟩) := by
  unfold must
  simp only
  by_cases h : pk l (sk l p) = []
  · rw [h]
    simp [show startOk [] = false by decide]
  · cases hs : startOk (pk l (sk l p)) <;> simp [h]
/-- THE TWO READERS AGREE. -/
theorem scan_agree : ∀ (n p : Nat), Agrees (rdOne l n p) (scanF l n ⟨p, none⟩) := by
  intro n
  induction n with
  | zero => intro p; rfl
  | succ n ih =>
    intro p
    have hF : ∀ p b, scanF l n ⟨p, some b⟩ = (zeroTy, ⟨p, some b⟩) := scanF_bad l n
    have hp := pk_case l (sk l p)
    unfold rdOne scanF
    simp only
    rw [must_start]
    rcases hp with ⟨k1, k2, k3⟩ | ⟨x, k1, k2, k3, k4, k5⟩ | ⟨x, k1, k2, k3, k4⟩
    · rw [k3, k2]
      have e : startOk [] = false := by decide
      simp [e, k1, endW, recW, show isVar [] = false by decide, Agrees]
    · rw [k5]
      have n1 : wd l (sk l p) ≠ [33] := by intro e; rw [e] at k4; simp at k4; subst k4; exact absurd k2 (by decide)
      have n2 : wd l (sk l p) ≠ [63] := by intro e; rw [e] at k4; simp at k4; subst k4; exact absurd k2 (by decide)
      have n3 : wd l (sk l p) ≠ [43] := by intro e; rw [e] at k4; simp at k4; subst k4; exact absurd k2 (by decide)
      have n4 : wd l (sk l p) ≠ [38] := by intro e; rw [e] at k4; simp at k4; subst k4; exact absurd k2 (by decide)
      by_cases h1 : wd l (sk l p) = endW
      · rw [h1]; simp [show startOk endW = true by decide, Agrees]; rfl
      by_cases h2 : wd l (sk l p) = recW
      · rw [h2]
        simp only [show startOk recW = true by decide, show recW ≠ endW by decide, if_true, if_false, show recW.length = 3 from rfl]
        rw [must_word l isVar (fun w hw => isVar_low hw)]
        cases hv : isVar (wd l (sk l (sk l p + 3))) with
        | false => simp [must_bad, hF, Agrees]
        | true =>
          simp only [if_true, Bool.true_eq_false, if_false]
          exact last_agree (by decide) hF ih (fun t => .mk 8 0 (wd l (sk l (sk l p + 3))) [] [t]) _
      · rw [if_neg h1, if_neg h2]
        cases hv : isVar (wd l (sk l p)) with
        | true => simp [startOk, hv, h1, h2, n1, n2, n3, n4, Agrees]
        | false =>
          have hs : startOk (wd l (sk l p)) = false := by simp [startOk, isW, h1, h2, hv, n1, n2, n3, n4]
          simp [hs, k3, endW, recW, Agrees]
    · rw [k4, k3]
      simp only [show ([] : Str) ≠ endW by decide, show ([] : Str) ≠ recW by decide, show isVar [] = false by decide, if_false, ne_eq, not_true_eq_false, k1, Option.some.injEq, Bool.false_eq_true]
      have low1 : ∀ c, lowb c = false → isVar [c] = false := by
        intro c hc
        cases h : isVar [c] with
        | false => rfl
        | true => have := (isVar_low h).2; simp only [low, List.all_cons, List.all_nil, Bool.and_true] at this; rw [lowb, this] at hc; cases hc
      by_cases e1 : x = 33
      · subst e1
        simp only [show startOk [33] = true by decide, show ([33] : Str) ≠ endW by decide, show ([33] : Str) ≠ recW by decide, if_true, if_false]
        exact passed_agree hF ih 0 _
      by_cases e2 : x = 63
      · subst e2
        simp only [show startOk [63] = true by decide, show ([63] : Str) ≠ endW by decide, show ([63] : Str) ≠ recW by decide, show ([63] : Str) ≠ [33] by decide, show (63 : UInt8) ≠ 33 by decide, if_true, if_false]
        exact passed_agree hF ih 1 _
      by_cases e3 : x = 43
      · subst e3
        simp only [show startOk [43] = true by decide, show ([43] : Str) ≠ endW by decide, show ([43] : Str) ≠ recW by decide, show ([43] : Str) ≠ [33] by decide, show ([43] : Str) ≠ [63] by decide, show (43 : UInt8) ≠ 33 by decide, show (43 : UInt8) ≠ 63 by decide, if_true, if_false]
        exact sign_agree (G := fun s => (Ty.mk 6 0 [] (loopF l (scanF l n) 7 s [] []).1 (loopF l (scanF l n) 7 s [] []).2.1, (loopF l (scanF l n) 7 s [] []).2.2)) (by decide) (fun q => loop_agree hF ih 6 7 q [] []) (fun q b => by rw [loopF_bad])
      by_cases e4 : x = 38
      · subst e4
        simp only [show startOk [38] = true by decide, show ([38] : Str) ≠ endW by decide, show ([38] : Str) ≠ recW by decide, show ([38] : Str) ≠ [33] by decide, show ([38] : Str) ≠ [63] by decide, show ([38] : Str) ≠ [43] by decide, show (38 : UInt8) ≠ 33 by decide, show (38 : UInt8) ≠ 63 by decide, show (38 : UInt8) ≠ 43 by decide, if_true, if_false]
        exact sign_agree (G := fun s => (Ty.mk 7 0 [] (loopF l (scanF l n) 7 s [] []).1 (loopF l (scanF l n) 7 s [] []).2.1, (loopF l (scanF l n) 7 s [] []).2.2)) (by decide) (fun q => loop_agree hF ih 7 7 q [] []) (fun q b => by rw [loopF_bad])
      · have hs : startOk [x] = false := by simp [startOk, isW, endW, recW, low1 x k2, e1, e2, e3, e4]
        simp [hs, e1, e2, e3, e4, endW, recW, Agrees]
end
theorem tw_take (p : UInt8 → Bool) (l : Str) : l.take (l.length - (l.dropWhile p).length) = l.takeWhile p := by
  have h : l.takeWhile p ++ l.dropWhile p = l := List.takeWhile_append_dropWhile
  have hl := congrArg List.length h
  rw [List.length_append] at hl
  conv => lhs; arg 2; rw [← h]
  rw [show l.length - (l.dropWhile p).length = (l.takeWhile p).length by omega, List.take_left]

end Go.Proofs.YtgnkncfnkjeinaaDoor
namespace Go.Proofs.YtgnkncfnkjeinaaDoor
open Go.RowKit Go.Proofs

section
variable {l : Str}
theorem pk_le {q : Nat} (h : q ≤ l.length) : q + (pk l q).length ≤ l.length := by
  rcases pk_case l q with ⟨_, _, h3⟩ | ⟨x, _, _, _, _, h5⟩ | ⟨x, h1, _, _, h4⟩
  · rw [h3]; simpa using h
  · rw [h5]; exact wd_le h
  · rw [h4]; have := at_lt h1; simp; omega
/-- From s on to s'. -/
def On (l : Str) (d : Nat) (s s' : St) : Prop := s.p ≤ s'.p ∧ s'.p ≤ l.length ∧ (s'.bad = none → s.bad = none ∧ s.p + d ≤ s'.p)
theorem On.refl {s : St} (h : s.p ≤ l.length) : On l 0 s s := ⟨Nat.le_refl _, h, fun h => ⟨h, Nat.le_refl _⟩⟩
theorem On.trans {d d' : Nat} {a b c : St} (h1 : On l d a b) (h2 : On l d' b c) : On l (d + d') a c :=
  ⟨Nat.le_trans h1.1 h2.1, h2.2.1, fun h => by
    have k2 := h2.2.2 h
    have k1 := h1.2.2 k2.1
    exact ⟨k1.1, by omega⟩⟩
theorem On.mono {d d' : Nat} {a b : St} (h : On l d a b) (hd : d' ≤ d) : On l d' a b := ⟨h.1, h.2.1, fun k => ⟨(h.2.2 k).1, by have := (h.2.2 k).2; omega⟩⟩
theorem must_on (right : Str → Bool) {s : St} (h : s.p ≤ l.length) : On l 1 s (must l right s).2 := by
  obtain ⟨p, bad⟩ := s
  have h1 := sk_le (show p ≤ l.length from h)
  have h2 := pk_le h1.2
  cases bad with
  | some b => exact ⟨h1.1, h1.2, fun k => by cases k⟩
  | none =>
    unfold must
    simp only
    split
    · exact ⟨h1.1, h1.2, fun k => by cases k⟩
    · rename_i hne
      simp only [not_or] at hne
      have : (pk l (sk l p)).length ≠ 0 := fun e => hne.1 (List.eq_nil_of_length_eq_zero e)
      exact ⟨by simp only; omega, h2, fun _ => ⟨rfl, by simp only; omega⟩⟩
theorem loop_on {F : St → Ty × St} (hF : ∀ s, s.p ≤ l.length → On l 0 s (F s).2) : ∀ (m : Nat) (s : St) (ls : List Str) (ks : List Ty), s.p ≤ l.length → On l 0 s (loopF l F m s ls ks).2.2 := by
  intro m
  induction m with
  | zero =>
    intro s ls ks h
    obtain ⟨p, bad⟩ := s
    cases bad with
    | none => exact ⟨Nat.le_refl _, h, fun k => by cases k⟩
    | some b => exact ⟨Nat.le_refl _, h, fun k => by cases k⟩
  | succ m ih =>
    intro s ls ks h
    obtain ⟨p, bad⟩ := s
    cases bad with
    | some b => exact ⟨Nat.le_refl _, h, fun k => by cases k⟩
    | none =>
      unfold loopF
      simp only
      have h1 := must_on (labelOk ls) (s := ⟨p, none⟩) h
      have h2 := must_on (isW [58]) h1.2.1
      have h3 := hF _ h2.2.1
      have h4 := must_on (fun w => isW [125] w || isW [44] w) h3.2.1
      have h5 := ((h1.trans h2).trans h3).trans h4
      split
      · exact (h5.trans (ih _ _ _ h4.2.1)).mono (by omega)
      · exact h5.mono (by omega)
theorem passed_on {F : St → Ty × St} (hF : ∀ s, s.p ≤ l.length → On l 0 s (F s).2) (add : Int) {s : St} (h : s.p ≤ l.length) : On l 0 s (scanPassed l F add s).2 := by
  have h1 := sk_le h
  unfold scanPassed
  split
  · rename_i hp
    have h2 := pk_le h1.2
    rw [hp] at h2
    simp only [List.length_cons, List.length_nil] at h2
    have h0 : On l 0 s ⟨sk l s.p + 1, s.bad⟩ := ⟨by simp only; omega, by simp only; omega, fun k => ⟨k, by simp only; omega⟩⟩
    have h3 := hF _ h0.2.1
    have h4 := must_on (isW [125]) h3.2.1
    have h5 := must_on (isW [46]) h4.2.1
    exact ((((h0.trans h3).trans h4).trans h5).trans (hF _ h5.2.1)).mono (by omega)
  · have h0 : On l 0 s ⟨sk l s.p, s.bad⟩ := ⟨h1.1, h1.2, fun k => ⟨k, h1.1⟩⟩
    have h4 := must_on (fun w => decide (0 < sortIx w)) h0.2.1
    have h5 := must_on (isW [46]) h4.2.1
    exact (((h0.trans h4).trans h5).trans (hF _ h5.2.1)).mono (by omega)
theorem scan_on : ∀ (n : Nat) (s : St), s.p ≤ l.length → On l 0 s (scanF l n s).2 := by
  intro n
  induction n with
  | zero =>
    intro s h
    obtain ⟨p, bad⟩ := s
    cases bad with
    | none => exact ⟨Nat.le_refl _, h, fun k => by cases k⟩
    | some b => exact ⟨Nat.le_refl _, h, fun k => by cases k⟩
  | succ n ih =>
    intro s h
    obtain ⟨p, bad⟩ := s
    cases bad with
    | some b => exact ⟨Nat.le_refl _, h, fun k => by cases k⟩
    | none =>
      unfold scanF
      simp only
      have h1 := must_on startOk (s := ⟨p, none⟩) h
      split
      · exact h1.mono (by omega)
      split
      · have h2 := must_on isVar h1.2.1
        have h3 := must_on (isW [46]) h2.2.1
        exact (((h1.trans h2).trans h3).trans (ih _ h3.2.1)).mono (by omega)
      split
      · exact (h1.trans (passed_on ih 0 h1.2.1)).mono (by omega)
      split
      · exact (h1.trans (passed_on ih 1 h1.2.1)).mono (by omega)
      split
      · have h2 := must_on (isW [123]) h1.2.1
        exact ((h1.trans h2).trans (loop_on ih 7 _ [] [] h2.2.1)).mono (by omega)
      split
      · have h2 := must_on (isW [123]) h1.2.1
        exact ((h1.trans h2).trans (loop_on ih 7 _ [] [] h2.2.1)).mono (by omega)
      · exact h1.mono (by omega)
end
/-- What Begin answers: the type, where it ends, the error and its place. -/
def rdBegin (l : Str) (p : Nat) : Ty × Nat × Int × Nat :=
  if 2000 < l.length then (zeroTy, 0, 2, 0)
  else match rdOne l (l.length + 1) p with
    | .bad q => (zeroTy, 0, 3, q)
    | .ok t q => if tyErr t = 0 then (t, sk l q, 0, 0) else (zeroTy, 0, tyErr t, 0)
/-- What Parse answers. -/
def rdParse (l : Str) : Ty × Int × Nat :=
  if (rdBegin l 0).2.2.1 = 0 ∧ (rdBegin l 0).2.1 < l.length then (zeroTy, 3, (rdBegin l 0).2.1) else ((rdBegin l 0).1, (rdBegin l 0).2.2)
/-- What the reference's Begin answers. -/
def scBegin (l : Str) (p : Nat) : Ty × Nat × Int × Nat :=
  if 2000 < l.length then (zeroTy, 0, 2, 0)
  else match (scanF l (l.length + 1) ⟨p, none⟩).2.bad with
    | some q => (zeroTy, 0, 3, q)
    | none => if tyErr (scanF l (l.length + 1) ⟨p, none⟩).1 = 0 then ((scanF l (l.length + 1) ⟨p, none⟩).1, sk l (scanF l (l.length + 1) ⟨p, none⟩).2.p, 0, 0) else (zeroTy, 0, tyErr (scanF l (l.length + 1) ⟨p, none⟩).1, 0)
theorem begin_agree (l : Str) (p : Nat) : scBegin l p = rdBegin l p := by
  unfold scBegin rdBegin
  split
  · rfl
  · have h := scan_agree (l := l) (l.length + 1) p
    cases hr : rdOne l (l.length + 1) p with
    | bad q =>
      rw [hr] at h
      have h' : (scanF l (l.length + 1) ⟨p, none⟩).2.bad = some q := h
      simp only [h']
    | ok t q =>
      rw [hr] at h
      have h' : scanF l (l.length + 1) ⟨p, none⟩ = (t, ⟨q, none⟩) := h
      simp only [h']
end Go.Proofs.YtgnkncfnkjeinaaDoor
