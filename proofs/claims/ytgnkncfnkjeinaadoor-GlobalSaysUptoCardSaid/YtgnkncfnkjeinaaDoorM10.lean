/-
  The plain law of reading a conversation: what the program's reader takes off a text (gdOne), what the reference's takes (gscanF), and that they agree.
  The program's reader of types: blanks, signs and words, and how it fails.
  The words of types.sorts as they lie in the world; the type that stands for none.
  Readers: what the walks of several readers share.
-/
import Derived.Test.YtgnkncfnkjeinaaDoorM8
import Derived.Test.YtgnkncfnkjeinaaDoorM9
import Derived.Deep.LoopGhost
import Derived.Test.YtgnkncfnkjeinaaDoorM4
import Derived.Test.YtgnkncfnkjeinaaDoorM6
namespace Go.Proofs.YtgnkncfnkjeinaaDoor
open Go.RowKit Go.Proofs

def gdChoice (l : Str) (f : Nat → Rd Gl) : Nat → Nat → List Str → List Gl → Rd (List Str × List Gl)
  | 0, p, _, _ => .bad p
  | m + 1, p, ls, ks =>
    if labelOk ls (wd l (sk l p)) = false then .bad (sk l p)
    else (rdSign l 58 (sk l p + (wd l (sk l p)).length)).seq fun _ p2 => (f p2).seq fun t p3 =>
      if l[sk l p3]? = some 44 then gdChoice l f m (sk l p3 + 1) (ls ++ [wd l (sk l p)]) (ks ++ [t])
      else (rdSign l 125 (sk l p3)).seq fun _ p4 => .ok (ls ++ [wd l (sk l p)], ks ++ [t]) p4
def otherOk (w v : Str) : Bool := isRole v && !(v == w)
def gdSend (l : Str) (f : Nat → Rd Gl) (w v : Str) (p : Nat) : Rd Gl :=
  (rdSign l 58 p).seq fun _ p2 =>
    if sortIx (wd l (sk l p2)) = 0 then .bad (sk l p2)
    else (rdSign l 46 (sk l p2 + (wd l (sk l p2)).length)).seq fun _ p3 => (f p3).seq fun t p4 => .ok (.mk 2 w v (sortIx (wd l (sk l p2))) [] [] [t]) p4
def gdPair (l : Str) (f : Nat → Rd Gl) (w : Str) (p : Nat) : Rd Gl :=
  if otherOk w (wd l (sk l p)) = false then .bad (sk l p)
  else if l[sk l (sk l p + (wd l (sk l p)).length)]? = some 123 then
    (gdChoice l f 7 (sk l (sk l p + (wd l (sk l p)).length) + 1) [] []).seq fun x p3 => .ok (.mk 6 w (wd l (sk l p)) 0 [] x.1 x.2) p3
  else gdSend l f w (wd l (sk l p)) (sk l (sk l p + (wd l (sk l p)).length))
/-- One conversation, off a text at a place. -/
def gdOne (l : Str) : Nat → Nat → Rd Gl
  | 0, p => .bad p
  | n + 1, p =>
    if isName (wd l (sk l p)) = false then .bad (sk l p)
    else if wd l (sk l p) = endW then .ok (.mk 1 [] [] 0 [] [] []) (sk l p + 3)
    else if wd l (sk l p) = recW then
      if isVar (wd l (sk l (sk l p + 3))) = false then .bad (sk l (sk l p + 3))
      else (rdSign l 46 (sk l (sk l p + 3) + (wd l (sk l (sk l p + 3))).length)).seq fun _ p2 => (gdOne l n p2).seq fun t p3 => .ok (.mk 8 [] [] 0 (wd l (sk l (sk l p + 3))) [] [t]) p3
    else if ¬ l[sk l (sk l p + (wd l (sk l p)).length)]? = some 62 then .ok (.mk 9 [] [] 0 (wd l (sk l p)) [] []) (sk l (sk l p + (wd l (sk l p)).length))
    else if isRole (wd l (sk l p)) = false then .bad (sk l (sk l p + (wd l (sk l p)).length))
    else gdPair l (gdOne l n) (wd l (sk l p)) (sk l (sk l p + (wd l (sk l p)).length) + 1)

/-- The reference's. -/
def gloopF (l : Str) (F : St → Gl × St) : Nat → St → List Str → List Gl → List Str × List Gl × St
  | 0, s, ls, ks => (ls, ks, ⟨s.p, some (s.bad.getD s.p)⟩)
  | m + 1, s, ls, ks => match s.bad with
    | some b => (ls, ks, ⟨s.p, some b⟩)
    | none =>
      let a := must l (labelOk ls) s
      let b := must l (isW [58]) a.2
      let c := F b.2
      match c.2.bad with
      | some q => (ls ++ [a.1], ks ++ [c.1], ⟨c.2.p, some q⟩)
      | none => if pk l (sk l c.2.p) = [44] then gloopF l F m ⟨sk l c.2.p + 1, none⟩ (ls ++ [a.1]) (ks ++ [c.1]) else (ls ++ [a.1], ks ++ [c.1], ⟨sk l c.2.p, none⟩)
def gscanSend (l : Str) (F : St → Gl × St) (w v : Str) (s : St) : Gl × St :=
  let b := must l (isW [58]) s
  let c := must l (fun w => decide (0 < sortIx w)) b.2
  let d := must l (isW [46]) c.2
  let e := F d.2
  (.mk 2 w v (sortIx c.1) [] [] [e.1], e.2)
def gscanPair (l : Str) (F : St → Gl × St) (w : Str) (s : St) : Gl × St :=
  let a := must l (otherOk w) s
  match a.2.bad with
  | some q => gscanSend l F w a.1 ⟨a.2.p, some q⟩
  | none =>
    if pk l (sk l a.2.p) = [123] then
      let c := gloopF l F 7 ⟨sk l a.2.p + 1, none⟩ [] []
      let d := must l (isW [125]) c.2.2
      (.mk 6 w a.1 0 [] c.1 c.2.1, d.2)
    else gscanSend l F w a.1 ⟨sk l a.2.p, none⟩
def gscanF (l : Str) : Nat → St → Gl × St
  | 0, s => (zeroGl, ⟨s.p, some (s.bad.getD s.p)⟩)
  | n + 1, s => match s.bad with
    | some b => (zeroGl, ⟨s.p, some b⟩)
    | none =>
      let a := must l isName s
      if a.1 = endW then (.mk 1 [] [] 0 [] [] [], a.2)
      else if a.1 = recW then
        let b := must l isVar a.2
        let c := must l (isW [46]) b.2
        let d := gscanF l n c.2
        (.mk 8 [] [] 0 b.1 [] [d.1], d.2)
      else match a.2.bad with
        | some q => (.mk 9 [] [] 0 a.1 [] [], ⟨a.2.p, some q⟩)
        | none =>
          if ¬ pk l (sk l a.2.p) = [62] then (.mk 9 [] [] 0 a.1 [] [], ⟨sk l a.2.p, none⟩)
          else if isRole a.1 = false then (zeroGl, ⟨sk l a.2.p, some (sk l a.2.p)⟩)
          else gscanPair l (gscanF l n) a.1 ⟨sk l a.2.p + 1, none⟩

section
variable {l : Str} {f : Nat → Rd Gl} {F : St → Gl × St}
theorem gdChoice_took (hf : ∀ p, p ≤ l.length → Took l p (f p)) : ∀ (m p : Nat) (ls : List Str) (ks : List Gl), p ≤ l.length → Took l p (gdChoice l f m p ls ks) := by
  intro m
  induction m with
  | zero => intro p ls ks hp; exact ⟨Nat.le_refl _, hp⟩
  | succ m ih =>
    intro p ls ks hp
    have h1 := sk_le hp
    have h3 := wd_le h1.2
    unfold gdChoice
    split
    · exact h1
    · refine (((rdSign_took 58 h3).seq fun _ p2 _ k2 => (hf p2 k2).seq fun t p3 _ k3 => ?_)).mono (by omega)
      have h4 := sk_le k3
      split
      · rename_i h; have := at_lt h
        exact (ih _ _ _ (by omega)).mono (by omega)
      · refine ((rdSign_took 125 h4.2).seq fun _ p4 _ k4 => ?_).mono (by omega)
        exact ⟨Nat.le_refl _, k4⟩
theorem gdSend_took (hf : ∀ p, p ≤ l.length → Took l p (f p)) (w v : Str) {p : Nat} (hp : p ≤ l.length) : Took l p (gdSend l f w v p) := by
  unfold gdSend
  refine (rdSign_took 58 hp).seq fun _ p2 _ k2 => ?_
  have h1 := sk_le k2
  have h3 := wd_le h1.2
  split
  · exact h1
  · refine ((rdSign_took 46 h3).seq fun _ p3 _ k3 => (hf p3 k3).seq fun t p4 _ k4 => ?_).mono (by omega)
    exact ⟨Nat.le_refl _, k4⟩
theorem gdPair_took (hf : ∀ p, p ≤ l.length → Took l p (f p)) (w : Str) {p : Nat} (hp : p ≤ l.length) : Took l p (gdPair l f w p) := by
  unfold gdPair
  have h1 := sk_le hp
  have h3 := wd_le h1.2
  have h4 := sk_le h3
  split
  · exact h1
  split
  · rename_i h; have := at_lt h
    refine ((gdChoice_took hf 7 _ [] [] (by omega)).seq fun x p3 _ k3 => ?_).mono (by omega)
    exact ⟨Nat.le_refl _, k3⟩
  · exact (gdSend_took hf w _ h4.2).mono (by omega)
theorem gdOne_took : ∀ (n p : Nat), p ≤ l.length → Took l p (gdOne l n p) := by
  intro n
  induction n with
  | zero => intro p hp; exact ⟨Nat.le_refl _, hp⟩
  | succ n ih =>
    intro p hp
    have h1 := sk_le hp
    have h3 := wd_le h1.2
    have h6 := sk_le h3
    unfold gdOne
    split
    · exact h1
    split
    · rename_i h; rw [h] at h3; simp [endW] at h3; exact ⟨by omega, h3⟩
    split
    · rename_i h; rw [h] at h3; simp [recW] at h3
      have h4 := sk_le h3
      have h5 := wd_le h4.2
      split
      · exact ⟨by omega, h4.2⟩
      · refine (((rdSign_took 46 h5).seq fun _ p2 _ k2 => (ih p2 k2).seq fun t p3 _ k3 => ?_)).mono (by omega)
        exact ⟨Nat.le_refl _, k3⟩
    split
    · exact ⟨by omega, h6.2⟩
    rename_i h
    have h7 := at_lt (Decidable.not_not.1 h)
    split
    · exact ⟨by omega, h6.2⟩
    · exact (gdPair_took ih _ (by omega)).mono (by omega)

theorem gfit_of (hl : l.length ≤ maxLen) (k : Int) (f o : Str) (s : Int) (n : Str) (hf : f.length ≤ l.length) (ho : o.length ≤ l.length) (hn : n.length ≤ l.length) (ls : List Str) (h1 : ls.length ≤ 7) (h2 : ∀ x ∈ ls, x.length ≤ l.length) (ks : List Gl) (h3 : ks.length ≤ 7) (h4 : ∀ t ∈ ks, GFit t) : GFit (.mk k f o s n ls ks) := by
  have h7 : 7 ≤ maxLen := by decide
  exact .mk k f o s n ls ks (by omega) (by omega) (by omega) (by omega) (fun x hx => Nat.le_trans (h2 x hx) hl) (by omega) h4
theorem gdChoice_fit (hf : ∀ p, Has GFit (f p)) : ∀ (m p : Nat) (ls : List Str) (ks : List Gl), ls.length + m = 7 → ks.length = ls.length → (∀ x ∈ ls, x.length ≤ l.length) → (∀ t ∈ ks, GFit t) →
    Has (fun x => x.1.length ≤ 7 ∧ x.2.length = x.1.length ∧ (∀ y ∈ x.1, y.length ≤ l.length) ∧ ∀ t ∈ x.2, GFit t) (gdChoice l f m p ls ks) := by
  intro m
  induction m with
  | zero => intro p ls ks _ _ _ _; trivial
  | succ m ih =>
    intro p ls ks h1 h2 h3 h4
    unfold gdChoice
    split
    · trivial
    · refine (Has.any _).seq fun _ p2 _ => (hf p2).seq fun t p3 ht => ?_
      have e3 : ∀ x ∈ ls ++ [wd l (sk l p)], x.length ≤ l.length := by
        intro x hx
        rcases List.mem_append.1 hx with hx | hx
        · exact h3 x hx
        · rw [List.mem_singleton.1 hx]; exact wd_len _ _
      have e4 : ∀ x ∈ ks ++ [t], GFit x := by
        intro x hx
        rcases List.mem_append.1 hx with hx | hx
        · exact h4 x hx
        · rw [List.mem_singleton.1 hx]; exact ht
      split
      · exact ih _ _ _ (by simp; omega) (by simp [h2]) e3 e4
      · refine (Has.any _).seq fun _ p4 _ => ?_
        exact ⟨by simp; omega, by simp [h2], e3, e4⟩
theorem gdSend_fit (hl : l.length ≤ maxLen) (hf : ∀ p, Has GFit (f p)) (w v : Str) (hw : w.length ≤ l.length) (hv : v.length ≤ l.length) (p : Nat) : Has GFit (gdSend l f w v p) := by
  unfold gdSend
  refine (Has.any _).seq fun _ p2 _ => ?_
  split
  · trivial
  · refine (Has.any _).seq fun _ p3 _ => (hf p3).seq fun t p4 ht => ?_
    exact gfit_of hl _ _ _ _ _ hw hv (by simp) _ (by simp) (by simp) _ (by simp) (by simp; exact ht)
theorem gdOne_fit (hl : l.length ≤ maxLen) : ∀ (n p : Nat), Has GFit (gdOne l n p) := by
  intro n
  induction n with
  | zero => intro p; trivial
  | succ n ih =>
    intro p
    unfold gdOne
    split
    · trivial
    split
    · exact gfit_of hl _ _ _ _ _ (by simp) (by simp) (by simp) _ (by simp) (by simp) _ (by simp) (by simp)
    split
    · split
      · trivial
      · refine (Has.any _).seq fun _ p2 _ => (ih p2).seq fun t p3 ht => ?_
        exact gfit_of hl _ _ _ _ _ (by simp) (by simp) (wd_len _ _) _ (by simp) (by simp) _ (by simp) (by simp; exact ht)
    split
    · exact gfit_of hl _ _ _ _ _ (by simp) (by simp) (wd_len _ _) _ (by simp) (by simp) _ (by simp) (by simp)
    split
    · trivial
    · unfold gdPair
      split
      · trivial
      split
      · refine (gdChoice_fit ih 7 _ [] [] rfl rfl (by simp) (by simp)).seq fun x p3 hx => ?_
        exact gfit_of hl _ _ _ _ _ (wd_len _ _) (wd_len _ _) (by simp) _ hx.1 hx.2.2.1 _ (by omega) hx.2.2.2
      · exact gdSend_fit hl ih _ _ (wd_len _ _) (wd_len _ _) _

theorem isRole_low {w : Str} (h : isRole w = true) : w ≠ [] ∧ low w = true := by
  match w with
  | [] => simp [isRole] at h
  | [x] =>
    simp only [isRole, Bool.and_eq_true, decide_eq_true_eq] at h
    exact ⟨by simp, by simp [low]; omega⟩
  | x :: y :: r => simp [isRole] at h
theorem otherOk_low {u w : Str} (h : otherOk u w = true) : w ≠ [] ∧ low w = true := by
  simp only [otherOk, Bool.and_eq_true] at h
  exact isRole_low h.1

theorem gscanF_bad (l : Str) (n p b : Nat) : gscanF l n ⟨p, some b⟩ = (zeroGl, ⟨p, some b⟩) := by cases n <;> rfl
theorem gloopF_bad (l : Str) (F : St → Gl × St) (m p b : Nat) (ls : List Str) (ks : List Gl) : gloopF l F m ⟨p, some b⟩ ls ks = (ls, ks, ⟨p, some b⟩) := by cases m <;> rfl

theorem gone_agree {α : Type} {r : Rd Gl} {x : Gl × St} {g : Gl → Nat → Rd α} {G : Gl → St → α × St}
    (h : Agrees r x) (h1 : ∀ t q, r = .ok t q → Agrees (g t q) (G t ⟨q, none⟩)) (h2 : ∀ t q b, (G t ⟨q, some b⟩).2.bad = some b) : Agrees (r.seq g) (G x.1 x.2) := by
  cases r with
  | ok t q =>
    have h' : x = (t, ⟨q, none⟩) := h
    rw [h']
    exact h1 t q rfl
  | bad q =>
    have h' : x.2.bad = some q := h
    obtain ⟨t, p, b⟩ := x
    simp only at h'
    subst h'
    exact h2 t p q
theorem glast_agree {c : UInt8} (hc : lowb c = false) (hF : ∀ p b, F ⟨p, some b⟩ = (zeroGl, ⟨p, some b⟩)) (ha : ∀ p, Agrees (f p) (F ⟨p, none⟩)) (T : Gl → Gl) (p : Nat) :
    Agrees ((rdSign l c p).seq fun _ p3 => (f p3).seq fun u p4 => .ok (T u) p4) (T (F (must l (isW [c]) ⟨p, none⟩).2).1, (F (must l (isW [c]) ⟨p, none⟩).2).2) := by
  refine sign_agree (g := fun _ p3 => (f p3).seq fun u p4 => .ok (T u) p4) (G := fun s => (T (F s).1, (F s).2)) hc (fun q => ?_) (fun q b => by simp [hF])
  exact gone_agree (g := fun u p4 => .ok (T u) p4) (G := fun u s => (T u, s)) (ha q) (fun u q2 _ => rfl) (fun u q2 b => rfl)
theorem gscanSend_bad (hF : ∀ p b, F ⟨p, some b⟩ = (zeroGl, ⟨p, some b⟩)) (w v : Str) (p b : Nat) : (gscanSend l F w v ⟨p, some b⟩).2.bad = some b := by
  simp [gscanSend, must_bad, hF]
theorem send_agree (hF : ∀ p b, F ⟨p, some b⟩ = (zeroGl, ⟨p, some b⟩)) (ha : ∀ p, Agrees (f p) (F ⟨p, none⟩)) (w v : Str) (p : Nat) : Agrees (gdSend l f w v p) (gscanSend l F w v ⟨p, none⟩) := by
  unfold gdSend gscanSend
  simp only
  refine sign_agree (c := 58) (g := fun _ p2 => if sortIx (wd l (sk l p2)) = 0 then .bad (sk l p2) else (rdSign l 46 (sk l p2 + (wd l (sk l p2)).length)).seq fun _ p3 => (f p3).seq fun t p4 => .ok (.mk 2 w v (sortIx (wd l (sk l p2))) [] [] [t]) p4)
    (G := fun s => (Gl.mk 2 w v (sortIx (must l (fun w => decide (0 < sortIx w)) s).1) [] [] [(F (must l (isW [46]) (must l (fun w => decide (0 < sortIx w)) s).2).2).1], (F (must l (isW [46]) (must l (fun w => decide (0 < sortIx w)) s).2).2).2))
    (by decide) (fun q => ?_) (fun q b => by simp [must_bad, hF])
  rw [must_word l _ (fun w hw => sortIx_low (by simp only [decide_eq_true_eq] at hw; omega))]
  by_cases h0 : sortIx (wd l (sk l q)) = 0
  · rw [if_pos h0, if_neg (by simp [h0])]
    simp [must_bad, hF, Agrees]
  · have := sortIx_nonneg (wd l (sk l q))
    rw [if_neg h0, if_pos (by simp; omega)]
    exact glast_agree (by decide) hF ha (fun t => .mk 2 w v (sortIx (wd l (sk l q))) [] [] [t]) _
theorem rdSign_sk (c : UInt8) (p : Nat) : rdSign l c (sk l p) = rdSign l c p := by unfold rdSign; rw [sk_sk]
theorem gloop_agree (hF : ∀ p b, F ⟨p, some b⟩ = (zeroGl, ⟨p, some b⟩)) (ha : ∀ p, Agrees (f p) (F ⟨p, none⟩)) (w v : Str) : ∀ (m p : Nat) (ls : List Str) (ks : List Gl),
    Agrees ((gdChoice l f m p ls ks).seq fun x p3 => .ok (Gl.mk 6 w v 0 [] x.1 x.2) p3) (Gl.mk 6 w v 0 [] (gloopF l F m ⟨p, none⟩ ls ks).1 (gloopF l F m ⟨p, none⟩ ls ks).2.1, (must l (isW [125]) (gloopF l F m ⟨p, none⟩ ls ks).2.2).2) := by
  intro m
  induction m with
  | zero => intro p ls ks; rfl
  | succ m ih =>
    intro p ls ks
    unfold gdChoice gloopF
    simp only
    rw [must_word l (labelOk ls) (fun w hw => labelOk_low hw)]
    cases hw : labelOk ls (wd l (sk l p)) with
    | false => simp [must_bad, hF, Agrees, Rd.seq_bad]
    | true =>
      simp only [if_true, Bool.true_eq_false, if_false]
      rw [must_sign l 58 (by decide)]
      unfold rdSign
      split
      · simp only [Rd.seq_ok]
        have h := ha (sk l (sk l p + (wd l (sk l p)).length) + 1)
        cases hr : f (sk l (sk l p + (wd l (sk l p)).length) + 1) with
        | bad q =>
          rw [hr] at h
          simp only [Rd.seq_bad]
          generalize F ⟨sk l (sk l p + (wd l (sk l p)).length) + 1, none⟩ = x at h ⊢
          obtain ⟨t, p', b⟩ := x
          have h' : b = some q := h
          subst h'
          simp [must_bad, Agrees]
        | ok t p3 =>
          rw [hr] at h
          have h' : F ⟨sk l (sk l p + (wd l (sk l p)).length) + 1, none⟩ = (t, ⟨p3, none⟩) := h
          rw [h']
          simp only [Rd.seq_ok, pk_sign l _ 44 (by decide)]
          by_cases e2 : l[sk l p3]? = some 44
          · rw [if_pos e2, if_pos e2]
            exact ih (sk l p3 + 1) (ls ++ [wd l (sk l p)]) (ks ++ [t])
          · rw [if_neg e2, if_neg e2]
            simp only
            rw [must_sign l 125 (by decide), sk_sk]
            split
            · simp [Agrees, Rd.seq_ok]
            · simp [Agrees, Rd.seq_bad]
      · simp [must_bad, hF, Agrees, Rd.seq_bad]
theorem pair_agree (hF : ∀ p b, F ⟨p, some b⟩ = (zeroGl, ⟨p, some b⟩)) (ha : ∀ p, Agrees (f p) (F ⟨p, none⟩)) (w : Str) (p : Nat) : Agrees (gdPair l f w p) (gscanPair l F w ⟨p, none⟩) := by
  unfold gdPair gscanPair
  simp only
  rw [must_word l (otherOk w) (fun w hw => otherOk_low hw)]
  cases hw : otherOk w (wd l (sk l p)) with
  | false =>
    simp only [if_true, Bool.false_eq_true, if_false]
    exact gscanSend_bad hF _ _ _ _
  | true =>
    simp only [if_true, Bool.true_eq_false, if_false, pk_sign l _ 123 (by decide)]
    split
    · exact gloop_agree hF ha w _ 7 _ [] []
    · exact send_agree hF ha w _ _
/-- THE TWO READERS AGREE. -/
theorem gscan_agree : ∀ (n p : Nat), Agrees (gdOne l n p) (gscanF l n ⟨p, none⟩) := by
  intro n
  induction n with
  | zero => intro p; rfl
  | succ n ih =>
    intro p
    have hF : ∀ p b, gscanF l n ⟨p, some b⟩ = (zeroGl, ⟨p, some b⟩) := gscanF_bad l n
    unfold gdOne gscanF
    simp only
    rw [must_word l isName (fun w hw => isName_low hw)]
    cases hn : isName (wd l (sk l p)) with
    | false => simp [endW, recW, Agrees]
    | true =>
      simp only [if_true, Bool.true_eq_false, if_false]
      by_cases h1 : wd l (sk l p) = endW
      · rw [if_pos h1, if_pos h1, h1]; rfl
      rw [if_neg h1, if_neg h1]
      by_cases h2 : wd l (sk l p) = recW
      · rw [if_pos h2, if_pos h2, h2]
        simp only [show recW.length = 3 from rfl]
        rw [must_word l isVar (fun w hw => isVar_low hw)]
        cases hv : isVar (wd l (sk l (sk l p + 3))) with
        | false => simp [must_bad, hF, Agrees]
        | true =>
          simp only [if_true, Bool.true_eq_false, if_false]
          exact glast_agree (by decide) hF ih (fun t => .mk 8 [] [] 0 (wd l (sk l (sk l p + 3))) [] [t]) _
      · rw [if_neg h2, if_neg h2]
        by_cases h3 : l[sk l (sk l p + (wd l (sk l p)).length)]? = some 62
        · simp only [pk_sign l _ 62 (by decide), h3, not_true_eq_false, if_false, if_true]
          cases hr : isRole (wd l (sk l p)) with
          | false => simp [Agrees]
          | true =>
            simp only [Bool.true_eq_false, if_false]
            exact pair_agree hF ih _ _
        · simp only [pk_sign l _ 62 (by decide), h3, not_false_eq_true, if_false, if_true]
          rfl
/-- The reference's reader goes on. -/
theorem gloop_on {F : St → Gl × St} (hF : ∀ s, s.p ≤ l.length → On l 0 s (F s).2) : ∀ (m : Nat) (s : St) (ls : List Str) (ks : List Gl), s.p ≤ l.length → On l 0 s (gloopF l F m s ls ks).2.2 := by
  intro m
  induction m with
  | zero =>
    intro s ls ks h
    obtain ⟨p, bad⟩ := s
    cases bad with
    | none => exact ⟨Nat.le_refl _, h, fun k => by cases k⟩
    | some b => exact ⟨Nat.le_refl _, h, fun k => by cases k⟩
  | succ m ih =>
    intro s ls ks h
    obtain ⟨p, bad⟩ := s
    cases bad with
    | some b => exact ⟨Nat.le_refl _, h, fun k => by cases k⟩
    | none =>
      unfold gloopF
      simp only
      have h1 := must_on (labelOk ls) (s := ⟨p, none⟩) h
      have h2 := must_on (isW [58]) h1.2.1
      have h3 := hF _ h2.2.1
      have h5 := (h1.trans h2).trans h3
      generalize F (must l (isW [58]) (must l (labelOk ls) ⟨p, none⟩).2).2 = c at h3 h5 ⊢
      obtain ⟨t, q, cb⟩ := c
      cases cb with
      | some b => exact h5.mono (by omega)
      | none =>
        have h6 := sk_le h5.2.1
        simp only at h6 ⊢
        split
        · rename_i hp
          have h7 := pk_le h6.2
          rw [hp] at h7
          simp only [List.length_cons, List.length_nil] at h7
          have h0 : On l 0 ⟨q, none⟩ ⟨sk l q + 1, none⟩ := ⟨by simp only; omega, by simp only; omega, fun k => ⟨k, by simp only; omega⟩⟩
          exact ((h5.trans h0).trans (ih _ _ _ h0.2.1)).mono (by omega)
        · have h0 : On l 0 ⟨q, none⟩ ⟨sk l q, none⟩ := ⟨h6.1, h6.2, fun k => ⟨k, h6.1⟩⟩
          exact (h5.trans h0).mono (by omega)
theorem gsend_on {F : St → Gl × St} (hF : ∀ s, s.p ≤ l.length → On l 0 s (F s).2) (w v : Str) {s : St} (h : s.p ≤ l.length) : On l 0 s (gscanSend l F w v s).2 := by
  unfold gscanSend
  have h3 := must_on (isW [58]) h
  have h4 := must_on (fun w => decide (0 < sortIx w)) h3.2.1
  have h5 := must_on (isW [46]) h4.2.1
  exact (((h3.trans h4).trans h5).trans (hF _ h5.2.1)).mono (by omega)
theorem gpair_on {F : St → Gl × St} (hF : ∀ s, s.p ≤ l.length → On l 0 s (F s).2) (w : Str) {s : St} (h : s.p ≤ l.length) : On l 0 s (gscanPair l F w s).2 := by
  unfold gscanPair
  have h1 := must_on (otherOk w) h
  simp only
  generalize must l (otherOk w) s = a at h1 ⊢
  obtain ⟨v, q, ab⟩ := a
  cases ab with
  | some b => exact (h1.trans (gsend_on hF w v h1.2.1)).mono (by omega)
  | none =>
    have h6 := sk_le h1.2.1
    simp only at h6 ⊢
    split
    · rename_i hp
      have h7 := pk_le h6.2
      rw [hp] at h7
      simp only [List.length_cons, List.length_nil] at h7
      have h0 : On l 0 ⟨q, none⟩ ⟨sk l q + 1, none⟩ := ⟨by simp only; omega, by simp only; omega, fun k => ⟨k, by simp only; omega⟩⟩
      have h8 := gloop_on hF 7 _ [] [] h0.2.1
      exact (((h1.trans h0).trans h8).trans (must_on (isW [125]) h8.2.1)).mono (by omega)
    · have h0 : On l 0 ⟨q, none⟩ ⟨sk l q, none⟩ := ⟨h6.1, h6.2, fun k => ⟨k, h6.1⟩⟩
      exact ((h1.trans h0).trans (gsend_on hF w v h0.2.1)).mono (by omega)
theorem gscan_on : ∀ (n : Nat) (s : St), s.p ≤ l.length → On l 0 s (gscanF l n s).2 := by
  intro n
  induction n with
  | zero =>
    intro s h
    obtain ⟨p, bad⟩ := s
    cases bad with
    | none => exact ⟨Nat.le_refl _, h, fun k => by cases k⟩
    | some b => exact ⟨Nat.le_refl _, h, fun k => by cases k⟩
  | succ n ih =>
    intro s h
    obtain ⟨p, bad⟩ := s
    cases bad with
    | some b => exact ⟨Nat.le_refl _, h, fun k => by cases k⟩
    | none =>
      unfold gscanF
      simp only
      have h1 := must_on isName (s := ⟨p, none⟩) h
      split
      · exact h1.mono (by omega)
      split
      · have h2 := must_on isVar h1.2.1
        have h3 := must_on (isW [46]) h2.2.1
        exact (((h1.trans h2).trans h3).trans (ih _ h3.2.1)).mono (by omega)
      generalize must l isName ⟨p, none⟩ = a at h1 ⊢
      obtain ⟨w, q, ab⟩ := a
      cases ab with
      | some b => exact h1.mono (by omega)
      | none =>
        have h6 := sk_le h1.2.1
        simp only at h6 ⊢
        split
        · have h0 : On l 0 ⟨q, none⟩ ⟨sk l q, none⟩ := ⟨h6.1, h6.2, fun k => ⟨k, h6.1⟩⟩
          exact (h1.trans h0).mono (by omega)
        rename_i hp
        have h7 := pk_le h6.2
        rw [Decidable.not_not.1 hp] at h7
        simp only [List.length_cons, List.length_nil] at h7
        split
        · have h0 : On l 0 ⟨q, none⟩ ⟨sk l q, some (sk l q)⟩ := ⟨h6.1, h6.2, fun k => by cases k⟩
          exact (h1.trans h0).mono (by omega)
        · have h0 : On l 0 ⟨q, none⟩ ⟨sk l q + 1, none⟩ := ⟨by simp only; omega, by simp only; omega, fun k => ⟨k, by simp only; omega⟩⟩
          exact ((h1.trans h0).trans (gpair_on ih w h0.2.1)).mono (by omega)
end
/-- What Parse answers: the conversation, the error and its place. -/
def gdParse (l : Str) : Gl × Int × Nat :=
  if 2000 < l.length then (zeroGl, 2, 0)
  else match gdOne l (l.length + 1) 0 with
    | .bad q => (zeroGl, 3, q)
    | .ok t q => if sk l q < l.length then (zeroGl, 3, sk l q) else if glErr t = 0 then (t, 0, 0) else (zeroGl, glErr t, 0)
/-- What the reference's Parse answers. -/
def gscParse (l : Str) : Gl × Int × Nat :=
  if 2000 < l.length then (zeroGl, 2, 0)
  else match (gscanF l (l.length + 1) ⟨0, none⟩).2.bad with
    | some q => (zeroGl, 3, q)
    | none => if ¬ pk l (sk l (gscanF l (l.length + 1) ⟨0, none⟩).2.p) = [] then (zeroGl, 3, sk l (gscanF l (l.length + 1) ⟨0, none⟩).2.p) else if glErr (gscanF l (l.length + 1) ⟨0, none⟩).1 = 0 then ((gscanF l (l.length + 1) ⟨0, none⟩).1, 0, 0) else (zeroGl, glErr (gscanF l (l.length + 1) ⟨0, none⟩).1, 0)
theorem pk_nil (l : Str) (q : Nat) (h : q ≤ l.length) : pk l q = [] ↔ ¬ q < l.length := by
  rcases pk_case l q with ⟨h1, _, h3⟩ | ⟨x, h1, h2, h3, h4, h5⟩ | ⟨x, h1, h2, _, h4⟩
  · simp at h1; simp [h3]; omega
  · have := at_lt h1; simp [h5, h3]; omega
  · have := at_lt h1; simp [h4]; omega
theorem gparse_agree (l : Str) : gscParse l = gdParse l := by
  unfold gscParse gdParse
  split
  · rfl
  · have h := gscan_agree (l := l) (l.length + 1) 0
    have ht := gdOne_took (l := l) (l.length + 1) 0 (Nat.zero_le _)
    cases hr : gdOne l (l.length + 1) 0 with
    | bad q =>
      rw [hr] at h
      have h' : (gscanF l (l.length + 1) ⟨0, none⟩).2.bad = some q := h
      simp only [h']
    | ok t q =>
      rw [hr] at h ht
      have h' : gscanF l (l.length + 1) ⟨0, none⟩ = (t, ⟨q, none⟩) := h
      have hq : q ≤ l.length := ht.2
      simp only [h', pk_nil l _ (sk_le hq).2, Decidable.not_not]
end Go.Proofs.YtgnkncfnkjeinaaDoor
namespace Go.Proofs.YtgnkncfnkjeinaaDoor
open Go.RowKit Go.Proofs

set_option maxRecDepth 100000
/-- A reader: its text, and where it is. -/
structure RBox (w : World) (b : Nat) (l : Str) (p : Nat) : Prop where
  c0 : w.cell? ⟨b, 0, none⟩ = some (.string ⟨l.toArray⟩)
  c1 : w.cell? ⟨b, 1, none⟩ = some (.int .i64 p)
  fr : ∀ j, w.frozen? ⟨b, j, none⟩ = false
  lt : b < w.heap.size
theorem RBox.set {w : World} {b : Nat} {l : Str} {p : Nat} (h : RBox w b l p) (q : Nat) : RBox (w.setCell ⟨b, 1, none⟩ (.int .i64 q)) b l q :=
  ⟨(World.cell?_setCell_other _ _ _ _ (by simp)).trans h.c0, World.cell?_setCell_same' _ _ _ (by rw [h.c1]; rfl), fun j => by rw [World.frozen?_setCell]; exact h.fr j, by rw [World.size_setCell]; exact h.lt⟩
theorem RBox.keep {w w' : World} {b : Nat} {l : Str} {p : Nat} (h : RBox w b l p) (hb : Below w.heap.size w w') : RBox w' b l p :=
  ⟨cell_keep h.c0 hb, cell_keep h.c1 hb, fun j => (hb.frozen (p := ⟨b, j, none⟩) h.lt).trans (h.fr j), Nat.lt_of_lt_of_le h.lt hb.size⟩
theorem RBox.far {w : World} {b : Nat} {l : Str} {p : Nat} (h : RBox w b l p) {a : Addr} (ha : a.block ≠ b) (u : Value) : RBox (w.setCell a u) b l p :=
  ⟨(World.cell?_setCell_far w a _ u ha).trans h.c0, (World.cell?_setCell_far w a _ u ha).trans h.c1, fun j => by rw [World.frozen?_setCell]; exact h.fr j, by rw [World.size_setCell]; exact h.lt⟩
theorem grown_at (w : World) (b : Nat) (a : Nat) (u : Value) : w.grownBy (w.setCell ⟨b, a, none⟩ u) (some b) := by
  refine ⟨rfl, rfl, rfl, by rw [World.size_setCell]; exact Nat.le_refl _, fun q hl hne => ?_⟩
  unfold World.setCell
  simp only
  rw [Array.getElem?_modify, if_neg (fun e => hne (by rw [← e]))]
theorem grown_refl (w : World) (b : Nat) : w.grownBy w (some b) := ⟨rfl, rfl, rfl, Nat.le_refl _, fun _ _ _ => rfl⟩
theorem grown_trans {a b c : World} {row : Option Nat} (h1 : a.grownBy b row) (h2 : b.grownBy c row) : a.grownBy c row :=
  ⟨h2.os.trans h1.os, h2.tape.trans h1.tape, h2.output.trans h1.output, Nat.le_trans h1.size h2.size, fun q hl hne => (h2.block q (Nat.lt_of_lt_of_le hl h1.size) hne).trans (h1.block q hl hne)⟩
theorem grown_belowB {a w w' : World} {b : Nat} (h : a.grownBy w (some b)) (hb : Below w.heap.size w w') : a.grownBy w' (some b) :=
  grown_trans h ⟨hb.os, hb.tape, hb.output, hb.size, fun q hl _ => hb.block q hl⟩

theorem grown_drewN {a w : World} {row : Option Nat} (h : a.grownBy w row) (n : Nat) : a.grownBy (w.drewN n) row := ⟨h.os, h.tape, h.output, h.size, h.block⟩
theorem RBox.drewN {w : World} {b : Nat} {l : Str} {p : Nat} (h : RBox w b l p) (n : Nat) : RBox (w.drewN n) b l p := ⟨h.c0, h.c1, h.fr, h.lt⟩

theorem sk_step {l : Str} {p : Nat} (h : l[p]? = some 32) : sk l p = sk l (p + 1) := by
  unfold sk
  rw [drop_at h, List.takeWhile_cons]
  simp
  omega
theorem sk_stop {l : Str} {p : Nat} {x : UInt8} (h : l[p]? = some x) (hx : x ≠ 32) : sk l p = p := by
  unfold sk
  rw [drop_at h, List.takeWhile_cons]
  simp [hx]
theorem sk_end {l : Str} {p : Nat} (h : l.length ≤ p) : sk l p = p := by
  unfold sk
  rw [List.drop_eq_nil_of_le h]
  rfl

set_option maxHeartbeats 1000000 in
theorem blanks_any (l : Str) (b p : Nat) (w : World) (hl : l.length ≤ 2000) (hp : p ≤ l.length) (hR : RBox w b l p) :
    Calls Tryd.prog 50 #[.pointer (some ⟨b, 0, none⟩)] w fun e w' => e = .returned (.tuple #[]) ∧ w.grownBy w' (some b) ∧ RBox w' b l (sk l p) := by
  obtain ⟨Q, hQ⟩ : ∃ x, sk l p = x := ⟨_, rfl⟩
  rw [hQ]
  have HQ := Lib.hid hQ; clear hQ
  go_enter Tryd.func50, Tryd.ntmps50
  go_wp2_with fail
  go_loopg [] (l.length - p) (fun gk wr => ∃ k, k ≤ l.length ∧ l.length - k ≤ gk ∧ sk l k = Q ∧ RBox wr b l k ∧ w.grownBy wr (some b))
  case atStart => exact ⟨p, hp, Nat.le_refl _, HQ.out, hR, ⟨rfl, rfl, rfl, Nat.le_refl _, fun _ _ _ => rfl⟩⟩
  case round =>
    obtain ⟨k, hk, hgk, hq, hB, hg⟩ := hrel
    have HK := Lib.hid hq; clear hq hR
    obtain ⟨c0, c1, fr, lt⟩ := id hB
    by_cases hlt : k < l.length
    · obtain ⟨x, hx⟩ : ∃ x, l[k]? = some x := ⟨_, List.getElem?_eq_getElem hlt⟩
      have HX := Lib.hid hx; clear hx
      have E : (⟨l.toArray⟩ : ByteArray)[k]'(by simpa [ByteArray.size] using hlt) = x := byte_at' HX.out _
      have hlt' : (k : Int) < (l.length : Int) := by omega
      by_cases h32 : x = 32
      · subst h32
        go_wp2_with fail
        go_quiet (fail)
        have hB2 := hB.drewN nq
        have hg2 := grown_drewN hg nq
        generalize wr.drewN nq = w2 at hB2 hg2 ⊢
        clear c0 c1 fr lt hB hg
        obtain ⟨c0, c1, fr, lt⟩ := id hB2
        go_wp2_with fail
        go_roundg (l.length - (k + 1))
        case measure => omega
        case rel => exact ⟨k + 1, by omega, Nat.le_refl _, by rw [← HK.out]; exact (sk_step HX.out).symm, by simpa using hB2.set (k + 1), grown_trans hg2 (grown_at _ _ _ _)⟩
      · have h32' : ((x.toNat : Int) == 32) = false := by
          rw [beq_eq_false_iff_ne]
          intro e
          exact h32 (UInt8.toNat.inj (by simpa using (by omega : x.toNat = 32)))
        go_wp2_with fail
        go_quiet (fail)
        have hB2 := hB.drewN nq
        have hg2 := grown_drewN hg nq
        generalize wr.drewN nq = w2 at hB2 hg2 ⊢
        clear c0 c1 fr lt hB hg
        go_wp2_with fail
        go_end0
        refine ⟨rfl, hg2, ?_⟩
        rw [← HK.out, sk_stop HX.out h32]
        exact hB2
    · have hlt' : decide ((k : Int) < (l.length : Int)) = false := by simp; omega
      go_wp2_with fail
      go_quiet (fail)
      have hB2 := hB.drewN nq
      have hg2 := grown_drewN hg nq
      generalize wr.drewN nq = w2 at hB2 hg2 ⊢
      clear c0 c1 fr lt hB hg
      go_wp2_with fail
      go_end0
      refine ⟨rfl, hg2, ?_⟩
      rw [← HK.out, sk_end (by omega)]
      exact hB2

set_option maxHeartbeats 1000000 in
theorem is_any (l : Str) (b p : Nat) (c : UInt8) (w : World) (hl : l.length ≤ 2000) (hp : p ≤ l.length) (hR : RBox w b l p) :
    Calls Tryd.prog 81 #[.pointer (some ⟨b, 0, none⟩), .int .u8 c.toNat] w fun e w' => e = .returned (.bool (decide (l[sk l p]? = some c))) ∧ w.grownBy w' (some b) ∧ RBox w' b l (sk l p) := by
  have hs := sk_le hp
  have hcall := blanks_any l b p w hl hp hR
  obtain ⟨q, hQ⟩ : ∃ x, sk l p = x := ⟨_, rfl⟩
  rw [hQ] at hs hcall ⊢
  clear hQ
  by_cases hlt : q < l.length
  · obtain ⟨x, hx⟩ : ∃ x, l[q]? = some x := ⟨_, List.getElem?_eq_getElem hlt⟩
    rw [hx]
    have HX := Lib.hid hx; clear hx
    have E : (⟨l.toArray⟩ : ByteArray)[q]'(by simpa [ByteArray.size] using hlt) = x := byte_at' HX.out _
    have hlt' : (q : Int) < (l.length : Int) := by omega
    go_enter Tryd.func81, Tryd.ntmps81
    go_wp2_with fail
    refine hcall.mono ?_; clear hcall
    rintro e w1 ⟨rfl, hg1, hB1⟩
    obtain ⟨c0, c1, fr, lt⟩ := id hB1
    go_wp2_with fail
    go_quiet (fail)
    have hB2 := hB1.drewN nq
    have hg2 := grown_drewN hg1 nq
    generalize w1.drewN nq = w2 at hB2 hg2 ⊢
    go_wp2_with fail
    go_ret
    refine ⟨ret_bool ?_, hg2, hB2⟩
    rw [Bool.eq_iff_iff]
    simp only [beq_iff_eq, decide_eq_true_eq, Option.some.injEq]
    exact ⟨fun h => UInt8.toNat.inj (by omega), fun h => by rw [h]⟩
  · have hlt' : decide ((q : Int) < (l.length : Int)) = false := by simp; omega
    have hq : l[q]? = none := by simp; omega
    rw [hq]
    go_enter Tryd.func81, Tryd.ntmps81
    go_wp2_with fail
    refine hcall.mono ?_; clear hcall
    rintro e w1 ⟨rfl, hg1, hB1⟩
    obtain ⟨c0, c1, fr, lt⟩ := id hB1
    go_wp2_with fail
    go_quiet (fail)
    have hB2 := hB1.drewN nq
    have hg2 := grown_drewN hg1 nq
    generalize w1.drewN nq = w2 at hB2 hg2 ⊢
    go_wp2_with fail
    go_ret
    exact ⟨ret_bool (by simp), hg2, hB2⟩

/-- What is thrown. -/
def thrown (q : Nat) : List PanicEntry := [{ v := .iface 79 (.agg #[.int .i64 3, .int .i64 q]), recovered := false }]
theorem fail_any (l : Str) (b p : Nat) (w : World) (hR : RBox w b l p) :
    Calls Tryd.prog 79 #[.pointer (some ⟨b, 0, none⟩)] w fun e w' => e = .panicked (thrown p) ∧ w.grownBy w' (some b) := by
  obtain ⟨c0, c1, fr, lt⟩ := id hR
  go_enter Tryd.func79, Tryd.ntmps79
  go_wp2_with fail
  exact ⟨rfl, rfl, grown_refl w b⟩
theorem trim_any' (l : Str) (w : World) :
    Calls Tryd.prog 108 #[.string ⟨l.toArray⟩, .string ⟨#[97, 98, 99, 100, 101, 102, 103, 104, 105, 106, 107, 108, 109, 110, 111, 112, 113, 114, 115, 116, 117, 118, 119, 120, 121, 122]⟩] w fun e w' => e = .returned (.string ⟨(l.dropWhile lowb).toArray⟩) ∧ Below w.heap.size w w' := by
  have h := Any.strings_TrimLeft_laid Tryd.lays161 (by kernel_rfl) ⟨l.toArray⟩ ⟨alphabet.toArray⟩ w (by decide) (ascii_of_all (by decide +kernel))
  have e : Lib.trimLeftS l alphabet = l.dropWhile lowb := by
    unfold Lib.trimLeftS
    congr 1
    funext x
    exact alphabet_has x
  simp only at h
  rw [e] at h
  exact h
set_option maxHeartbeats 1000000 in
theorem word_any (l : Str) (b p : Nat) (w : World) (hl : l.length ≤ 2000) (hp : p ≤ l.length) (hR : RBox w b l p) :
    Calls Tryd.prog 78 #[.pointer (some ⟨b, 0, none⟩)] w fun e w' => e = .returned (.string ⟨(wd l (sk l p)).toArray⟩) ∧ w.grownBy w' (some b) ∧ RBox w' b l (sk l p) := by
  have hs := sk_le hp
  have hcall := blanks_any l b p w hl hp hR
  obtain ⟨q, hQ⟩ : ∃ x, sk l p = x := ⟨_, rfl⟩
  rw [hQ] at hs hcall ⊢
  clear hQ
  obtain ⟨WD, hW⟩ : ∃ x, wd l q = x := ⟨_, rfl⟩
  rw [hW]
  have HW := Lib.hid hW; clear hW
  go_enter Tryd.func78, Tryd.ntmps78
  go_wp2_with fail
  refine hcall.mono ?_; clear hcall
  rintro e w1 ⟨rfl, hg1, hB1⟩
  obtain ⟨c0, c1, fr, lt⟩ := id hB1
  have g1 : ¬ (l.length : Int) < (q : Int) := by omega
  have g2 : ¬ (q : Int) < 0 := by omega
  have g3 : 0 ≤ (q : Int) ∧ (q : Int) ≤ (l.length : Int) := by omega
  have g4 : (q : Int) ≤ (l.length : Int) := by omega
  have g5 : (l.length : Int) ≤ 2000 := by omega
  go_wp2_with fail
  go_quiet (fail)
  have hB2 := hB1.drewN nq
  have hg2 := grown_drewN hg1 nq
  generalize w1.drewN nq = w2 at hB2 hg2 ⊢
  clear c0 c1 fr lt hB1 hg1
  have hDl : (l.drop q).length = l.length - q := List.length_drop
  have hT := tw_take lowb (l.drop q)
  have hTl := (List.dropWhile_sublist lowb (l := l.drop q)).length_le
  go_wp2_with fail
  refine (trim_any' _ _).mono ?_
  rintro e w3 ⟨rfl, hb3⟩
  have hB3 := hB2.keep hb3
  have hg3 := grown_belowB hg2 hb3
  have hWD : Hid ((l.drop q).take ((l.drop q).length - ((l.drop q).dropWhile lowb).length) = WD) := Lib.hid (hT.trans HW.out)
  generalize (l.drop q).dropWhile lowb = T at hTl hWD ⊢
  generalize l.drop q = D at hDl hTl hWD ⊢
  clear hB2 hg2 hb3 hT HW
  clear w2
  have k1 : ((D.length : Int) - (T.length : Int)) = ((D.length - T.length : Nat) : Int) := by omega
  have k2 : ((D.length - T.length : Nat) : Int) ≤ (D.length : Int) := by omega
  go_wp2_with fail
  go_ret
  rw [hDl] at hWD
  exact ⟨by rw [hWD.out]; rfl, hg3, hB3⟩

/-- What a reading answers in the program: the rest behind it, or what is thrown. -/
theorem sign_ok (l : Str) (b p : Nat) (c : UInt8) (w : World) (hl : l.length ≤ 2000) (hp : p ≤ l.length) (hR : RBox w b l p) (h : l[sk l p]? = some c) :
    Calls Tryd.prog 80 #[.pointer (some ⟨b, 0, none⟩), .int .u8 c.toNat] w fun e w' => e = .returned (.tuple #[]) ∧ w.grownBy w' (some b) ∧ RBox w' b l (sk l p + 1) := by
  have hs := sk_le hp
  have hlt := at_lt h
  have hcall := is_any l b p c w hl hp hR
  rw [h] at hcall
  generalize sk l p = q at hs hlt hcall ⊢
  clear h
  go_enter Tryd.func80, Tryd.ntmps80
  go_wp2_with fail
  refine hcall.mono ?_; clear hcall
  rintro e w1 ⟨rfl, hg1, hB1⟩
  obtain ⟨c0, c1, fr, lt⟩ := id hB1
  go_wp2_with fail
  go_end0
  exact ⟨rfl, grown_trans hg1 (grown_at _ _ _ _), by simpa using hB1.set (q + 1)⟩
theorem sign_bad (l : Str) (b p : Nat) (c : UInt8) (w : World) (hl : l.length ≤ 2000) (hp : p ≤ l.length) (hR : RBox w b l p) (h : ¬ l[sk l p]? = some c) :
    Calls Tryd.prog 80 #[.pointer (some ⟨b, 0, none⟩), .int .u8 c.toNat] w fun e w' => e = .panicked (thrown (sk l p)) ∧ w.grownBy w' (some b) := by
  have hs := sk_le hp
  have hcall := is_any l b p c w hl hp hR
  have hd : decide (l[sk l p]? = some c) = false := by simpa using h
  rw [hd] at hcall
  generalize sk l p = q at hs hcall ⊢
  clear h hd
  go_enter Tryd.func80, Tryd.ntmps80
  go_wp2_with fail
  refine hcall.mono ?_; clear hcall
  rintro e w1 ⟨rfl, hg1, hB1⟩
  go_wp2_with fail
  refine (fail_any l b q w1 hB1).mono ?_
  rintro e w2 ⟨rfl, hg2⟩
  exact ⟨rfl, rfl, grown_trans hg1 hg2⟩
end Go.Proofs.YtgnkncfnkjeinaaDoor
namespace Go.Proofs.YtgnkncfnkjeinaaDoor
open Go.RowKit Go.Proofs

def Sorts (w : World) : Prop := ∃ b o c, w.cell? ⟨0, 0, none⟩ = some (.slice (some ⟨b, o, none⟩) 4 c) ∧ 4 ≤ c ∧ StrRow w b o [[], [105, 110, 116], [98, 111, 111, 108], [116, 101, 120, 116]]
theorem Sorts.keep {w w' : World} (h : Sorts w) (hb : Below w.heap.size w w') : Sorts w' := by
  obtain ⟨b, o, c, h1, h2, h3⟩ := h
  exact ⟨b, o, c, cell_keep h1 hb, h2, h3.keep hb⟩

def noTy : Ty := .mk 0 0 [] [] []
theorem fit_no : Fit noTy := .mk 0 0 [] [] [] (by decide) (by decide) (by simp) (by simp) (by simp) (by simp) (by simp)
end Go.Proofs.YtgnkncfnkjeinaaDoor
namespace Go.Proofs.YtgnkncfnkjeinaaDoor
open Go.RowKit Go.Proofs

set_option maxRecDepth 100000
def sortsL : List Str := [[], [105, 110, 116], [98, 111, 111, 108], [116, 101, 120, 116]]
def ixOf (W : Str) : Int := if W = [] then 0 else if sortIx W = 0 then -1 else sortIx W
theorem ixOf_lt {W : Str} (h : sortIx W = 0) : ixOf W < 1 := by
  unfold ixOf
  rw [h]
  split <;> decide
theorem ixOf_eq {W : Str} (h : ¬ sortIx W = 0) : ixOf W = sortIx W := by
  unfold ixOf
  rw [if_neg (sortIx_low h).1, if_neg h]
theorem index_sorts {w : World} {gb go gc : Nat} (hrow : StrRow w gb go [[], [105, 110, 116], [98, 111, 111, 108], [116, 101, 120, 116]]) (W : Str) :
    Calls Tryd.prog 75 #[.slice (some ⟨gb, go, none⟩) 4 gc, .string ⟨W.toArray⟩] w fun e w' => e = .returned (.int .i64 (ixOf W)) ∧ w' = w := by
  have h := Tryd.slices_Index_string gb go 4 gc (sortsL.map fun s => ⟨s.toArray⟩) ⟨W.toArray⟩ w (by simp [sortsL]) (by decide) (by
    intro j hj
    have hj' : j < 4 := by simpa [sortsL] using hj
    rw [hrow j (sortsL[j]'(by simpa [sortsL] using hj')) (by rw [List.getElem?_eq_getElem]; rfl)]
    congr 2
    rw [List.getD_eq_getElem?_getD, List.getElem?_map, List.getElem?_eq_getElem (by simpa [sortsL] using hj')]
    rfl)
  rw [List.take_of_length_le (by simp [sortsL])] at h
  have e : Lib.idxOfS (sortsL.map fun s => (⟨s.toArray⟩ : ByteArray)) ⟨W.toArray⟩ = ixOf W := by
    unfold ixOf sortIx
    simp only [sortsL, List.map, Lib.idxOfS, Lib.idxFromS, mk_inj, @eq_comm _ _ W]
    repeat' split
    all_goals first | rfl | (subst_vars; simp_all) | simp_all
  rw [e] at h
  exact h
theorem own_at {w w' : World} {base : Nat} {e : TypeId} {size n : Nat} {v : Value} {xs : List Value} {b : Nat} (h : w.ownsRow base e size v n xs) (hg : w.grownBy w' (some b)) (hb : b < base) : w'.ownsRow base e size v n xs := by
  refine h.kept hg (Or.inr fun e => ?_)
  have := (h.lt b e).1
  omega
abbrev strVals (l : List Str) : List Value := l.map fun s => .string ⟨s.toArray⟩
theorem own_strsD {D : Blocks} {w : World} {base : Nat} {E : TypeId} {v : Value} {l : List Str} (h : w.ownsRow base E 1 v l.length (strVals l)) (hD : ∀ b, base ≤ b → D b) : StrsD D w v l := by
  have hcells := fun g => h.cells (g := g)
  rcases h.2 with ⟨rfl, h0⟩ | ⟨g, cap, cur, rfl, hg, _, hn, _⟩
  · exact ⟨none, 0, by rw [h0], by omega, fun h1 => by omega⟩
  · refine ⟨_, cap, rfl, hn, fun _ => ⟨g, 0, rfl, hD g hg, fun i s hi => ?_⟩⟩
    have := hcells g rfl i (.string ⟨s.toArray⟩) (by rw [strVals, List.getElem?_map, hi]; rfl)
    rw [Go.WideShapes.add_plain] at this
    exact this
theorem RBox.keepB {w w' : World} {b B : Nat} {l : Str} {p : Nat} (h : RBox w b l p) (hb : Below B w w') (hB : b < B) : RBox w' b l p :=
  ⟨(hb.cell (p := ⟨b, 0, none⟩) hB).trans h.c0, (hb.cell (p := ⟨b, 1, none⟩) hB).trans h.c1, fun j => (hb.frozen (p := ⟨b, j, none⟩) hB).trans (h.fr j), Nat.lt_of_lt_of_le h.lt hb.size⟩
theorem grown_belowT {a w w' : World} {row : Option Nat} {B : Nat} (h : a.grownBy w row) (hb : Below B w w') (hB : a.heap.size ≤ B) : a.grownBy w' row :=
  ⟨hb.os.trans h.os, hb.tape.trans h.tape, hb.output.trans h.output, Nat.le_trans h.size hb.size, fun q hl hne => (hb.block q (by omega)).trans (h.block q hl hne)⟩
theorem new_box (w : World) (E : TypeId) : VBox (w.alloc (.cells #[.int .i64 0, .int .i64 0, .string ⟨#[]⟩, .slice none 0 0, .slice none 0 0] E)) w.heap.size zeroTy (.slice none 0 0) (.slice none 0 0) :=
  ⟨by simp [go_sem]; rfl, by simp [go_sem]; rfl, by simp [go_sem]; rfl, by simp [go_sem], by simp [go_sem], fun j => by simp [go_sem], by simp⟩
theorem sign_seq_ok {α : Type} {l : Str} {c : UInt8} {p : Nat} (h : l[sk l p]? = some c) (f : Unit → Nat → Rd α) : (rdSign l c p).seq f = f () (sk l p + 1) := by rw [rdSign, if_pos h]; rfl
theorem sign_seq_bad {α : Type} {l : Str} {c : UInt8} {p : Nat} (h : ¬ l[sk l p]? = some c) (f : Unit → Nat → Rd α) : (rdSign l c p).seq f = .bad (sk l p) := by rw [rdSign, if_neg h]; rfl
theorem grown_drew {a w : World} {row : Option Nat} (h : a.grownBy w row) : a.grownBy w.drew row := ⟨h.os, h.tape, h.output, h.size, h.block⟩
theorem drew_grown {w w' : World} {row : Option Nat} (h : w.drew.grownBy w' row) : w.grownBy w' row := ⟨h.os, h.tape, h.output, h.size, h.block⟩
end Go.Proofs.YtgnkncfnkjeinaaDoor
