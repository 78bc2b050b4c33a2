/-
  The plain law of reading a conversation: what the program's reader takes off a text (gdOne), what the reference's takes (gscanF), and that they agree.
-/
import Derived.Test.YtcacembpegoghaaDoorGlC
import Derived.Test.YtcacembpegoghaaDoorRdS2
namespace Go.Proofs.YtcacembpegoghaaDoor
open Go.RowKit Go.Proofs

def gdChoice (l : Str) (f : Nat → Rd Gl) : Nat → Nat → List Str → List Gl → Rd (List Str × List Gl)
  | 0, p, _, _ => .bad p
  | m + 1, p, ls, ks =>
    if labelOk ls (wd l (sk l p)) = false then .bad (sk l p)
    else (rdSign l 58 (sk l p + (wd l (sk l p)).length)).seq fun _ p2 => (f p2).seq fun t p3 =>
      if l[sk l p3]? = some 44 then gdChoice l f m (sk l p3 + 1) (ls ++ [wd l (sk l p)]) (ks ++ [t])
      else (rdSign l 125 (sk l p3)).seq fun _ p4 => .ok (ls ++ [wd l (sk l p)], ks ++ [t]) p4
def otherOk (w v : Str) : Bool := isRole v && !(v == w)
def gdSend (l : Str) (f : Nat → Rd Gl) (w v : Str) (p : Nat) : Rd Gl :=
  (rdSign l 58 p).seq fun _ p2 =>
    if sortIx (wd l (sk l p2)) = 0 then .bad (sk l p2)
    else (rdSign l 46 (sk l p2 + (wd l (sk l p2)).length)).seq fun _ p3 => (f p3).seq fun t p4 => .ok (.mk 2 w v (sortIx (wd l (sk l p2))) [] [] [t]) p4
def gdPair (l : Str) (f : Nat → Rd Gl) (w : Str) (p : Nat) : Rd Gl :=
  if otherOk w (wd l (sk l p)) = false then .bad (sk l p)
  else if l[sk l (sk l p + (wd l (sk l p)).length)]? = some 123 then
    (gdChoice l f 7 (sk l (sk l p + (wd l (sk l p)).length) + 1) [] []).seq fun x p3 => .ok (.mk 6 w (wd l (sk l p)) 0 [] x.1 x.2) p3
  else gdSend l f w (wd l (sk l p)) (sk l (sk l p + (wd l (sk l p)).length))
/-- One conversation, off a text at a place. -/
def gdOne (l : Str) : Nat → Nat → Rd Gl
  | 0, p => .bad p
  | n + 1, p =>
    if isName (wd l (sk l p)) = false then .bad (sk l p)
    else if wd l (sk l p) = endW then .ok (.mk 1 [] [] 0 [] [] []) (sk l p + 3)
    else if wd l (sk l p) = recW then
      if isVar (wd l (sk l (sk l p + 3))) = false then .bad (sk l (sk l p + 3))
      else (rdSign l 46 (sk l (sk l p + 3) + (wd l (sk l (sk l p + 3))).length)).seq fun _ p2 => (gdOne l n p2).seq fun t p3 => .ok (.mk 8 [] [] 0 (wd l (sk l (sk l p + 3))) [] [t]) p3
    else if ¬ l[sk l (sk l p + (wd l (sk l p)).length)]? = some 62 then .ok (.mk 9 [] [] 0 (wd l (sk l p)) [] []) (sk l (sk l p + (wd l (sk l p)).length))
    else if isRole (wd l (sk l p)) = false then .bad (sk l (sk l p + (wd l (sk l p)).length))
    else gdPair l (gdOne l n) (wd l (sk l p)) (sk l (sk l p + (wd l (sk l p)).length) + 1)

/-- The reference's. -/
def gloopF (l : Str) (F : St → Gl × St) : Nat → St → List Str → List Gl → List Str × List Gl × St
  | 0, s, ls, ks => (ls, ks, ⟨s.p, some (s.bad.getD s.p)⟩)
  | m + 1, s, ls, ks => match s.bad with
    | some b => (ls, ks, ⟨s.p, some b⟩)
    | none =>
      let a := must l (labelOk ls) s
      let b := must l (isW [58]) a.2
      let c := F b.2
      match c.2.bad with
      | some q => (ls ++ [a.1], ks ++ [c.1], ⟨c.2.p, some q⟩)
      | none => if pk l (sk l c.2.p) = [44] then gloopF l F m ⟨sk l c.2.p + 1, none⟩ (ls ++ [a.1]) (ks ++ [c.1]) else (ls ++ [a.1], ks ++ [c.1], ⟨sk l c.2.p, none⟩)
def gscanSend (l : Str) (F : St → Gl × St) (w v : Str) (s : St) : Gl × St :=
  let b := must l (isW [58]) s
  let c := must l (fun w => decide (0 < sortIx w)) b.2
  let d := must l (isW [46]) c.2
  let e := F d.2
  (.mk 2 w v (sortIx c.1) [] [] [e.1], e.2)
def gscanPair (l : Str) (F : St → Gl × St) (w : Str) (s : St) : Gl × St :=
  let a := must l (otherOk w) s
  match a.2.bad with
  | some q => gscanSend l F w a.1 ⟨a.2.p, some q⟩
  | none =>
    if pk l (sk l a.2.p) = [123] then
      let c := gloopF l F 7 ⟨sk l a.2.p + 1, none⟩ [] []
      let d := must l (isW [125]) c.2.2
      (.mk 6 w a.1 0 [] c.1 c.2.1, d.2)
    else gscanSend l F w a.1 ⟨sk l a.2.p, none⟩
def gscanF (l : Str) : Nat → St → Gl × St
  | 0, s => (zeroGl, ⟨s.p, some (s.bad.getD s.p)⟩)
  | n + 1, s => match s.bad with
    | some b => (zeroGl, ⟨s.p, some b⟩)
    | none =>
      let a := must l isName s
      if a.1 = endW then (.mk 1 [] [] 0 [] [] [], a.2)
      else if a.1 = recW then
        let b := must l isVar a.2
        let c := must l (isW [46]) b.2
        let d := gscanF l n c.2
        (.mk 8 [] [] 0 b.1 [] [d.1], d.2)
      else match a.2.bad with
        | some q => (.mk 9 [] [] 0 a.1 [] [], ⟨a.2.p, some q⟩)
        | none =>
          if ¬ pk l (sk l a.2.p) = [62] then (.mk 9 [] [] 0 a.1 [] [], ⟨sk l a.2.p, none⟩)
          else if isRole a.1 = false then (zeroGl, ⟨sk l a.2.p, some (sk l a.2.p)⟩)
          else gscanPair l (gscanF l n) a.1 ⟨sk l a.2.p + 1, none⟩

section
variable {l : Str} {f : Nat → Rd Gl} {F : St → Gl × St}
theorem gdChoice_took (hf : ∀ p, p ≤ l.length → Took l p (f p)) : ∀ (m p : Nat) (ls : List Str) (ks : List Gl), p ≤ l.length → Took l p (gdChoice l f m p ls ks) := by
  intro m
  induction m with
  | zero => intro p ls ks hp; exact ⟨Nat.le_refl _, hp⟩
  | succ m ih =>
    intro p ls ks hp
    have h1 := sk_le hp
    have h3 := wd_le h1.2
    unfold gdChoice
    split
    · exact h1
    · refine (((rdSign_took 58 h3).seq fun _ p2 _ k2 => (hf p2 k2).seq fun t p3 _ k3 => ?_)).mono (by omega)
      have h4 := sk_le k3
      split
      · rename_i h; have := at_lt h
        exact (ih _ _ _ (by omega)).mono (by omega)
      · refine ((rdSign_took 125 h4.2).seq fun _ p4 _ k4 => ?_).mono (by omega)
        exact ⟨Nat.le_refl _, k4⟩
theorem gdSend_took (hf : ∀ p, p ≤ l.length → Took l p (f p)) (w v : Str) {p : Nat} (hp : p ≤ l.length) : Took l p (gdSend l f w v p) := by
  unfold gdSend
  refine (rdSign_took 58 hp).seq fun _ p2 _ k2 => ?_
  have h1 := sk_le k2
  have h3 := wd_le h1.2
  split
  · exact h1
  · refine ((rdSign_took 46 h3).seq fun _ p3 _ k3 => (hf p3 k3).seq fun t p4 _ k4 => ?_).mono (by omega)
    exact ⟨Nat.le_refl _, k4⟩
theorem gdPair_took (hf : ∀ p, p ≤ l.length → Took l p (f p)) (w : Str) {p : Nat} (hp : p ≤ l.length) : Took l p (gdPair l f w p) := by
  unfold gdPair
  have h1 := sk_le hp
  have h3 := wd_le h1.2
  have h4 := sk_le h3
  split
  · exact h1
  split
  · rename_i h; have := at_lt h
    refine ((gdChoice_took hf 7 _ [] [] (by omega)).seq fun x p3 _ k3 => ?_).mono (by omega)
    exact ⟨Nat.le_refl _, k3⟩
  · exact (gdSend_took hf w _ h4.2).mono (by omega)
theorem gdOne_took : ∀ (n p : Nat), p ≤ l.length → Took l p (gdOne l n p) := by
  intro n
  induction n with
  | zero => intro p hp; exact ⟨Nat.le_refl _, hp⟩
  | succ n ih =>
    intro p hp
    have h1 := sk_le hp
    have h3 := wd_le h1.2
    have h6 := sk_le h3
    unfold gdOne
    split
    · exact h1
    split
    · rename_i h; rw [h] at h3; simp [endW] at h3; exact ⟨by omega, h3⟩
    split
    · rename_i h; rw [h] at h3; simp [recW] at h3
      have h4 := sk_le h3
      have h5 := wd_le h4.2
      split
      · exact ⟨by omega, h4.2⟩
      · refine (((rdSign_took 46 h5).seq fun _ p2 _ k2 => (ih p2 k2).seq fun t p3 _ k3 => ?_)).mono (by omega)
        exact ⟨Nat.le_refl _, k3⟩
    split
    · exact ⟨by omega, h6.2⟩
    rename_i h
    have h7 := at_lt (Decidable.not_not.1 h)
    split
    · exact ⟨by omega, h6.2⟩
    · exact (gdPair_took ih _ (by omega)).mono (by omega)

theorem gfit_of (hl : l.length ≤ maxLen) (k : Int) (f o : Str) (s : Int) (n : Str) (hf : f.length ≤ l.length) (ho : o.length ≤ l.length) (hn : n.length ≤ l.length) (ls : List Str) (h1 : ls.length ≤ 7) (h2 : ∀ x ∈ ls, x.length ≤ l.length) (ks : List Gl) (h3 : ks.length ≤ 7) (h4 : ∀ t ∈ ks, GFit t) : GFit (.mk k f o s n ls ks) := by
  have h7 : 7 ≤ maxLen := by decide
  exact .mk k f o s n ls ks (by omega) (by omega) (by omega) (by omega) (fun x hx => Nat.le_trans (h2 x hx) hl) (by omega) h4
theorem gdChoice_fit (hf : ∀ p, Has GFit (f p)) : ∀ (m p : Nat) (ls : List Str) (ks : List Gl), ls.length + m = 7 → ks.length = ls.length → (∀ x ∈ ls, x.length ≤ l.length) → (∀ t ∈ ks, GFit t) →
    Has (fun x => x.1.length ≤ 7 ∧ x.2.length = x.1.length ∧ (∀ y ∈ x.1, y.length ≤ l.length) ∧ ∀ t ∈ x.2, GFit t) (gdChoice l f m p ls ks) := by
  intro m
  induction m with
  | zero => intro p ls ks _ _ _ _; trivial
  | succ m ih =>
    intro p ls ks h1 h2 h3 h4
    unfold gdChoice
    split
    · trivial
    · refine (Has.any _).seq fun _ p2 _ => (hf p2).seq fun t p3 ht => ?_
      have e3 : ∀ x ∈ ls ++ [wd l (sk l p)], x.length ≤ l.length := by
        intro x hx
        rcases List.mem_append.1 hx with hx | hx
        · exact h3 x hx
        · rw [List.mem_singleton.1 hx]; exact wd_len _ _
      have e4 : ∀ x ∈ ks ++ [t], GFit x := by
        intro x hx
        rcases List.mem_append.1 hx with hx | hx
        · exact h4 x hx
        · rw [List.mem_singleton.1 hx]; exact ht
      split
      · exact ih _ _ _ (by simp; omega) (by simp [h2]) e3 e4
      · refine (Has.any _).seq fun _ p4 _ => ?_
        exact ⟨by simp; omega, by simp [h2], e3, e4⟩
theorem gdSend_fit (hl : l.length ≤ maxLen) (hf : ∀ p, Has GFit (f p)) (w v : Str) (hw : w.length ≤ l.length) (hv : v.length ≤ l.length) (p : Nat) : Has GFit (gdSend l f w v p) := by
  unfold gdSend
  refine (Has.any _).seq fun _ p2 _ => ?_
  split
  · trivial
  · refine (Has.any _).seq fun _ p3 _ => (hf p3).seq fun t p4 ht => ?_
    exact gfit_of hl _ _ _ _ _ hw hv (by simp) _ (by simp) (by simp) _ (by simp) (by simp; exact ht)
theorem gdOne_fit (hl : l.length ≤ maxLen) : ∀ (n p : Nat), Has GFit (gdOne l n p) := by
  intro n
  induction n with
  | zero => intro p; trivial
  | succ n ih =>
    intro p
    unfold gdOne
    split
    · trivial
    split
    · exact gfit_of hl _ _ _ _ _ (by simp) (by simp) (by simp) _ (by simp) (by simp) _ (by simp) (by simp)
    split
    · split
      · trivial
      · refine (Has.any _).seq fun _ p2 _ => (ih p2).seq fun t p3 ht => ?_
        exact gfit_of hl _ _ _ _ _ (by simp) (by simp) (wd_len _ _) _ (by simp) (by simp) _ (by simp) (by simp; exact ht)
    split
    · exact gfit_of hl _ _ _ _ _ (by simp) (by simp) (wd_len _ _) _ (by simp) (by simp) _ (by simp) (by simp)
    split
    · trivial
    · unfold gdPair
      split
      · trivial
      split
      · refine (gdChoice_fit ih 7 _ [] [] rfl rfl (by simp) (by simp)).seq fun x p3 hx => ?_
        exact gfit_of hl _ _ _ _ _ (wd_len _ _) (wd_len _ _) (by simp) _ hx.1 hx.2.2.1 _ (by omega) hx.2.2.2
      · exact gdSend_fit hl ih _ _ (wd_len _ _) (wd_len _ _) _

theorem isRole_low {w : Str} (h : isRole w = true) : w ≠ [] ∧ low w = true := by
  match w with
  | [] => simp [isRole] at h
  | [x] =>
    simp only [isRole, Bool.and_eq_true, decide_eq_true_eq] at h
    exact ⟨by simp, by simp [low]; omega⟩
  | x :: y :: r => simp [isRole] at h
theorem otherOk_low {u w : Str} (h : otherOk u w = true) : w ≠ [] ∧ low w = true := by
  simp only [otherOk, Bool.and_eq_true] at h
  exact isRole_low h.1

theorem gscanF_bad (l : Str) (n p b : Nat) : gscanF l n ⟨p, some b⟩ = (zeroGl, ⟨p, some b⟩) := by cases n <;> rfl
theorem gloopF_bad (l : Str) (F : St → Gl × St) (m p b : Nat) (ls : List Str) (ks : List Gl) : gloopF l F m ⟨p, some b⟩ ls ks = (ls, ks, ⟨p, some b⟩) := by cases m <;> rfl

theorem gone_agree {α : Type} {r : Rd Gl} {x : Gl × St} {g : Gl → Nat → Rd α} {G : Gl → St → α × St}
    (h : Agrees r x) (h1 : ∀ t q, r = .ok t q → Agrees (g t q) (G t ⟨q, none⟩)) (h2 : ∀ t q b, (G t ⟨q, some b⟩).2.bad = some b) : Agrees (r.seq g) (G x.1 x.2) := by
  cases r with
  | ok t q =>
    have h' : x = (t, ⟨q, none⟩) := h
    rw [h']
    exact h1 t q rfl
  | bad q =>
    have h' : x.2.bad = some q := h
    obtain ⟨t, p, b⟩ := x
    simp only at h'
    subst h'
    exact h2 t p q
theorem glast_agree {c : UInt8} (hc : lowb c = false) (hF : ∀ p b, F ⟨p, some b⟩ = (zeroGl, ⟨p, some b⟩)) (ha : ∀ p, Agrees (f p) (F ⟨p, none⟩)) (T : Gl → Gl) (p : Nat) :
    Agrees ((rdSign l c p).seq fun _ p3 => (f p3).seq fun u p4 => .ok (T u) p4) (T (F (must l (isW [c]) ⟨p, none⟩).2).1, (F (must l (isW [c]) ⟨p, none⟩).2).2) := by
  refine sign_agree (g := fun _ p3 => (f p3).seq fun u p4 => .ok (T u) p4) (G := fun s => (T (F s).1, (F s).2)) hc (fun q => ?_) (fun q b => by simp [hF])
  exact gone_agree (g := fun u p4 => .ok (T u) p4) (G := fun u s => (T u, s)) (ha q) (fun u q2 _ => rfl) (fun u q2 b => rfl)
theorem gscanSend_bad (hF : ∀ p b, F ⟨p, some b⟩ = (zeroGl, ⟨p, some b⟩)) (w v : Str) (p b : Nat) : (gscanSend l F w v ⟨p, some b⟩).2.bad = some b := by
  simp [gscanSend, must_bad, hF]
theorem send_agree (hF : ∀ p b, F ⟨p, some b⟩ = (zeroGl, ⟨p, some b⟩)) (ha : ∀ p, Agrees (f p) (F ⟨p, none⟩)) (w v : Str) (p : Nat) : Agrees (gdSend l f w v p) (gscanSend l F w v ⟨p, none⟩) := by
  unfold gdSend gscanSend
  simp only
  refine sign_agree (c := 58) (g := fun _ p2 => if sortIx (wd l (sk l p2)) = 0 then .bad (sk l p2) else (rdSign l 46 (sk l p2 + (wd l (sk l p2)).length)).seq fun _ p3 => (f p3).seq fun t p4 => .ok (.mk 2 w v (sortIx (wd l (sk l p2))) [] [] [t]) p4)
    (G := fun s => (Gl.mk 2 w v (sortIx (must l (fun w => decide (0 < sortIx w)) s).1) [] [] [(F (must l (isW [46]) (must l (fun w => decide (0 < sortIx w)) s).2).2).1], (F (must l (isW [46]) (must l (fun w => decide (0 < sortIx w)) s).2).2).2))
    (by decide) (fun q => ?_) (fun q b => by simp [must_bad, hF])
  rw [must_word l _ (fun w hw => sortIx_low (by simp only [decide_eq_true_eq] at hw; omega))]
  by_cases h0 : sortIx (wd l (sk l q)) = 0
  · rw [if_pos h0, if_neg (by simp [h0])]
    simp [must_bad, hF, Agrees]
  · have := sortIx_nonneg (wd l (sk l q))
    rw [if_neg h0, if_pos (by simp; omega)]
    exact glast_agree (by decide) hF ha (fun t => .mk 2 w v (sortIx (wd l (sk l q))) [] [] [t]) _
theorem rdSign_sk (c : UInt8) (p : Nat) : rdSign l c (sk l p) = rdSign l c p := by unfold rdSign; rw [sk_sk]
theorem gloop_agree (hF : ∀ p b, F ⟨p, some b⟩ = (zeroGl, ⟨p, some b⟩)) (ha : ∀ p, Agrees (f p) (F ⟨p, none⟩)) (w v : Str) : ∀ (m p : Nat) (ls : List Str) (ks : List Gl),
    Agrees ((gdChoice l f m p ls ks).seq fun x p3 => .ok (Gl.mk 6 w v 0 [] x.1 x.2) p3) (Gl.mk 6 w v 0 [] (gloopF l F m ⟨p, none⟩ ls ks).1 (gloopF l F m ⟨p, none⟩ ls ks).2.1, (must l (isW [125]) (gloopF l F m ⟨p, none⟩ ls ks).2.2).2) := by
  intro m
  induction m with
  | zero => intro p ls ks; rfl
  | succ m ih =>
    intro p ls ks
    unfold gdChoice gloopF
    simp only
    rw [must_word l (labelOk ls) (fun w hw => labelOk_low hw)]
    cases hw : labelOk ls (wd l (sk l p)) with
    | false => simp [must_bad, hF, Agrees, Rd.seq_bad]
    | true =>
      simp only [if_true, Bool.true_eq_false, if_false]
      rw [must_sign l 58 (by decide)]
      unfold rdSign
      split
      · simp only [Rd.seq_ok]
        have h := ha (sk l (sk l p + (wd l (sk l p)).length) + 1)
        cases hr : f (sk l (sk l p + (wd l (sk l p)).length) + 1) with
        | bad q =>
          rw [hr] at h
          simp only [Rd.seq_bad]
          generalize F ⟨sk l (sk l p + (wd l (sk l p)).length) + 1, none⟩ = x at h ⊢
          obtain ⟨t, p', b⟩ := x
          have h' : b = some q := h
          subst h'
          simp [must_bad, Agrees]
        | ok t p3 =>
          rw [hr] at h
          have h' : F ⟨sk l (sk l p + (wd l (sk l p)).length) + 1, none⟩ = (t, ⟨p3, none⟩) := h
          rw [h']
          simp only [Rd.seq_ok, pk_sign l _ 44 (by decide)]
          by_cases e2 : l[sk l p3]? = some 44
          · rw [if_pos e2, if_pos e2]
            exact ih (sk l p3 + 1) (ls ++ [wd l (sk l p)]) (ks ++ [t])
          · rw [if_neg e2, if_neg e2]
            simp only
            rw [must_sign l 125 (by decide), sk_sk]
            split
            · simp [Agrees, Rd.seq_ok]
            · simp [Agrees, Rd.seq_bad]
      · simp [must_bad, hF, Agrees, Rd.seq_bad]
theorem pair_agree (hF : ∀ p b, F ⟨p, some b⟩ = (zeroGl, ⟨p, some b⟩)) (ha : ∀ p, Agrees (f p) (F ⟨p, none⟩)) (w : Str) (p : Nat) : Agrees (gdPair l f w p) (gscanPair l F w ⟨p, none⟩) := by
  unfold gdPair gscanPair
  simp only
  rw [must_word l (otherOk w) (fun w hw => otherOk_low hw)]
  cases hw : otherOk w (wd l (sk l p)) with
  | false =>
    simp only [if_true, Bool.false_eq_true, if_false]
    exact gscanSend_bad hF _ _ _ _
  | true =>
    simp only [if_true, Bool.true_eq_false, if_false, pk_sign l _ 123 (by decide)]
    split
    · exact gloop_agree hF ha w _ 7 _ [] []
    · exact send_agree hF ha w _ _
/-- THE TWO READERS AGREE. -/
theorem gscan_agree : ∀ (n p : Nat), Agrees (gdOne l n p) (gscanF l n ⟨p, none⟩) := by
  intro n
  induction n with
  | zero => intro p; rfl
  | succ n ih =>
    intro p
    have hF : ∀ p b, gscanF l n ⟨p, some b⟩ = (zeroGl, ⟨p, some b⟩) := gscanF_bad l n
    unfold gdOne gscanF
    simp only
    rw [must_word l isName (fun w hw => isName_low hw)]
    cases hn : isName (wd l (sk l p)) with
    | false => simp [endW, recW, Agrees]
    | true =>
      simp only [if_true, Bool.true_eq_false, if_false]
      by_cases h1 : wd l (sk l p) = endW
      · rw [if_pos h1, if_pos h1, h1]; rfl
      rw [if_neg h1, if_neg h1]
      by_cases h2 : wd l (sk l p) = recW
      · rw [if_pos h2, if_pos h2, h2]
        simp only [show recW.length = 3 from rfl]
        rw [must_word l isVar (fun w hw => isVar_low hw)]
        cases hv : isVar (wd l (sk l (sk l p + 3))) with
        | false => simp [must_bad, hF, Agrees]
        | true =>
          simp only [if_true, Bool.true_eq_false, if_false]
          exact glast_agree (by decide) hF ih (fun t => .mk 8 [] [] 0 (wd l (sk l (sk l p + 3))) [] [t]) _
      · rw [if_neg h2, if_neg h2]
        by_cases h3 : l[sk l (sk l p + (wd l (sk l p)).length)]? = some 62
        · simp only [pk_sign l _ 62 (by decide), h3, not_true_eq_false, if_false, if_true]
          cases hr : isRole (wd l (sk l p)) with
          | false => simp [Agrees]
          | true =>
            simp only [Bool.true_eq_false, if_false]
            exact pair_agree hF ih _ _
        · simp only [pk_sign l _ 62 (by decide), h3, not_false_eq_true, if_false, if_true]
          rfl
/-- The reference's reader goes on. -/
theorem gloop_on {F : St → Gl × St} (hF : ∀ s, s.p ≤ l.length → On l 0 s (F s).2) : ∀ (m : Nat) (s : St) (ls : List Str) (ks : List Gl), s.p ≤ l.length → On l 0 s (gloopF l F m s ls ks).2.2 := by
  intro m
  induction m with
  | zero =>
    intro s ls ks h
    obtain ⟨p, bad⟩ := s
    cases bad with
    | none => exact ⟨Nat.le_refl _, h, fun k => by cases k⟩
    | some b => exact ⟨Nat.le_refl _, h, fun k => by cases k⟩
  | succ m ih =>
    intro s ls ks h
    obtain ⟨p, bad⟩ := s
    cases bad with
    | some b => exact ⟨Nat.le_refl _, h, fun k => by cases k⟩
    | none =>
      unfold gloopF
      simp only
      have h1 := must_on (labelOk ls) (s := ⟨p, none⟩) h
      have h2 := must_on (isW [58]) h1.2.1
      have h3 := hF _ h2.2.1
      have h5 := (h1.trans h2).trans h3
      generalize F (must l (isW [58]) (must l (labelOk ls) ⟨p, none⟩).2).2 = c at h3 h5 ⊢
      obtain ⟨t, q, cb⟩ := c
      cases cb with
      | some b => exact h5.mono (by omega)
      | none =>
        have h6 := sk_le h5.2.1
        simp only at h6 ⊢
        split
        · rename_i hp
          have h7 := pk_le h6.2
          rw [hp] at h7
          simp only [List.length_cons, List.length_nil] at h7
          have h0 : On l 0 ⟨q, none⟩ ⟨sk l q + 1, none⟩ := ⟨by simp only; omega, by simp only; omega, fun k => ⟨k, by simp only; omega⟩⟩
          exact ((h5.trans h0).trans (ih _ _ _ h0.2.1)).mono (by omega)
        · have h0 : On l 0 ⟨q, none⟩ ⟨sk l q, none⟩ := ⟨h6.1, h6.2, fun k => ⟨k, h6.1⟩⟩
          exact (h5.trans h0).mono (by omega)
theorem gsend_on {F : St → Gl × St} (hF : ∀ s, s.p ≤ l.length → On l 0 s (F s).2) (w v : Str) {s : St} (h : s.p ≤ l.length) : On l 0 s (gscanSend l F w v s).2 := by
  unfold gscanSend
  have h3 := must_on (isW [58]) h
  have h4 := must_on (fun w => decide (0 < sortIx w)) h3.2.1
  have h5 := must_on (isW [46]) h4.2.1
  exact (((h3.trans h4).trans h5).trans (hF _ h5.2.1)).mono (by omega)
theorem gpair_on {F : St → Gl × St} (hF : ∀ s, s.p ≤ l.length → On l 0 s (F s).2) (w : Str) {s : St} (h : s.p ≤ l.length) : On l 0 s (gscanPair l F w s).2 := by
  unfold gscanPair
  have h1 := must_on (otherOk w) h
  simp only
  generalize must l (otherOk w) s = a at h1 ⊢
  obtain ⟨v, q, ab⟩ := a
  cases ab with
  | some b => exact (h1.trans (gsend_on hF w v h1.2.1)).mono (by omega)
  | none =>
    have h6 := sk_le h1.2.1
    simp only at h6 ⊢
    split
    · rename_i hp
      have h7 := pk_le h6.2
      rw [hp] at h7
      simp only [List.length_cons, List.length_nil] at h7
      have h0 : On l 0 ⟨q, none⟩ ⟨sk l q + 1, none⟩ := ⟨by simp only; omega, by simp only; omega, fun k => ⟨k, by simp only; omega⟩⟩
      have h8 := gloop_on hF 7 _ [] [] h0.2.1
      exact (((h1.trans h0).trans h8).trans (must_on (isW [125]) h8.2.1)).mono (by omega)
    · have h0 : On l 0 ⟨q, none⟩ ⟨sk l q, none⟩ := ⟨h6.1, h6.2, fun k => ⟨k, h6.1⟩⟩
      exact ((h1.trans h0).trans (gsend_on hF w v h0.2.1)).mono (by omega)
theorem gscan_on : ∀ (n : Nat) (s : St), s.p ≤ l.length → On l 0 s (gscanF l n s).2 := by
  intro n
  induction n with
  | zero =>
    intro s h
    obtain ⟨p, bad⟩ := s
    cases bad with
    | none => exact ⟨Nat.le_refl _, h, fun k => by cases k⟩
    | some b => exact ⟨Nat.le_refl _, h, fun k => by cases k⟩
  | succ n ih =>
    intro s h
    obtain ⟨p, bad⟩ := s
    cases bad with
    | some b => exact ⟨Nat.le_refl _, h, fun k => by cases k⟩
    | none =>
      unfold gscanF
      simp only
      have h1 := must_on isName (s := ⟨p, none⟩) h
      split
      · exact h1.mono (by omega)
      split
      · have h2 := must_on isVar h1.2.1
        have h3 := must_on (isW [46]) h2.2.1
        exact (((h1.trans h2).trans h3).trans (ih _ h3.2.1)).mono (by omega)
      generalize must l isName ⟨p, none⟩ = a at h1 ⊢
      obtain ⟨w, q, ab⟩ := a
      cases ab with
      | some b => exact h1.mono (by omega)
      | none =>
        have h6 := sk_le h1.2.1
        simp only at h6 ⊢
        split
        · have h0 : On l 0 ⟨q, none⟩ ⟨sk l q, none⟩ := ⟨h6.1, h6.2, fun k => ⟨k, h6.1⟩⟩
          exact (h1.trans h0).mono (by omega)
        rename_i hp
        have h7 := pk_le h6.2
        rw [Decidable.not_not.1 hp] at h7
        simp only [List.length_cons, List.length_nil] at h7
        split
        · have h0 : On l 0 ⟨q, none⟩ ⟨sk l q, some (sk l q)⟩ := ⟨h6.1, h6.2, fun k => by cases k⟩
          exact (h1.trans h0).mono (by omega)
        · have h0 : On l 0 ⟨q, none⟩ ⟨sk l q + 1, none⟩ := ⟨by simp only; omega, by simp only; omega, fun k => ⟨k, by simp only; omega⟩⟩
          exact ((h1.trans h0).trans (gpair_on ih w h0.2.1)).mono (by omega)
end
/-- What Parse answers: the conversation, the error and its place. -/
def gdParse (l : Str) : Gl × Int × Nat :=
  if 2000 < l.length then (zeroGl, 2, 0)
  else match gdOne l (l.length + 1) 0 with
    | .bad q => (zeroGl, 3, q)
    | .ok t q => if sk l q < l.length then (zeroGl, 3, sk l q) else if glErr t = 0 then (t, 0, 0) else (zeroGl, glErr t, 0)
/-- What the reference's Parse answers. -/
def gscParse (l : Str) : Gl × Int × Nat :=
  if 2000 < l.length then (zeroGl, 2, 0)
  else match (gscanF l (l.length + 1) ⟨0, none⟩).2.bad with
    | some q => (zeroGl, 3, q)
    | none => if ¬ pk l (sk l (gscanF l (l.length + 1) ⟨0, none⟩).2.p) = [] then (zeroGl, 3, sk l (gscanF l (l.length + 1) ⟨0, none⟩).2.p) else if glErr (gscanF l (l.length + 1) ⟨0, none⟩).1 = 0 then ((gscanF l (l.length + 1) ⟨0, none⟩).1, 0, 0) else (zeroGl, glErr (gscanF l (l.length + 1) ⟨0, none⟩).1, 0)
theorem pk_nil (l : Str) (q : Nat) (h : q ≤ l.length) : pk l q = [] ↔ ¬ q < l.length := by
  rcases pk_case l q with ⟨h1, _, h3⟩ | ⟨x, h1, h2, h3, h4, h5⟩ | ⟨x, h1, h2, _, h4⟩
  · simp at h1; simp [h3]; omega
  · have := at_lt h1; simp [h5, h3]; omega
  · have := at_lt h1; simp [h4]; omega
theorem gparse_agree (l : Str) : gscParse l = gdParse l := by
  unfold gscParse gdParse
  split
  · rfl
  · have h := gscan_agree (l := l) (l.length + 1) 0
    have ht := gdOne_took (l := l) (l.length + 1) 0 (Nat.zero_le _)
    cases hr : gdOne l (l.length + 1) 0 with
    | bad q =>
      rw [hr] at h
      have h' : (gscanF l (l.length + 1) ⟨0, none⟩).2.bad = some q := h
      simp only [h']
    | ok t q =>
      rw [hr] at h ht
      have h' : gscanF l (l.length + 1) ⟨0, none⟩ = (t, ⟨q, none⟩) := h
      have hq : q ≤ l.length := ht.2
      simp only [h', pk_nil l _ (sk_le hq).2, Decidable.not_not]
end Go.Proofs.YtcacembpegoghaaDoor
