/-
  As Held, for an operation that the tail waits for through others.
-/
import Derived.Test.YtcacembpegoghaaDoorHeld
namespace Go.Proofs.YtcacembpegoghaaDoor
open Go.RowKit Go.Proofs

section
variable {P : Program} {ops : Array Oper} {Q : Exit → Act → World → Prop} {md : Region.Mode} {S : World → Prop} {n : Nat}
/-- What is listed has all listed that it waits for. -/
def Closed (md : Region.Mode) (ops : Array Oper) (L : Array Bool) : Prop := ∀ j o, ops[j]? = some o → L.getD j false = true → ∀ e ∈ o.after, Region.binds md e = true → L.getD e.on false = true
def closedB (md : Region.Mode) (ops : Array Oper) (L : Array Bool) : Bool := (List.range ops.size).all fun j => match ops[j]? with | some o => !(L.getD j false) || o.after.all fun e => !Region.binds md e || L.getD e.on false | none => true
theorem closed_of {L : Array Bool} (h : closedB md ops L = true) : Closed md ops L := by
  intro j o ho hj e he hb
  have hjs : j < ops.size := (Array.getElem?_eq_some_iff.1 ho).1
  have h1 := List.all_eq_true.1 h j (List.mem_range.2 hjs)
  simp only [ho, hj, Bool.not_true, Bool.false_or] at h1
  obtain ⟨k, hk, rfl⟩ := Array.mem_iff_getElem.1 he
  have h2 := Array.all_eq_true.1 h1 k hk
  simpa [hb] using h2
theorem closed_step {L : Array Bool} (h : Closed md ops L) {i : Nat} (hi : i ∈ Region.ready md ops L) : Closed md ops (L.setIfInBounds i true) := by
  intro j o ho hj e he hb
  obtain ⟨_, o', ho', hall⟩ := mem_ready.1 hi
  by_cases hij : i = j
  · subst hij
    rw [ho] at ho'
    obtain rfl := Option.some.inj ho'
    exact getD_set_true (hall e he hb)
  · rw [getD_set_ne false hij] at hj
    exact getD_set_true (h j o ho hj e he hb)
/-- Does number k wait for number i, through others too? -/
def waitsT (md : Region.Mode) (ops : Array Oper) (i : Nat) : Nat → Nat → Bool
  | 0, _ => false
  | f + 1, k => match ops[k]? with
    | some o => o.after.any fun e => Region.binds md e && (e.on == i || waitsT md ops i f e.on)
    | none => false
theorem waitsT_no {L : Array Bool} (h : Closed md ops L) {i : Nat} (hi : L.getD i false = false) : ∀ (f k : Nat), waitsT md ops i f k = true → L.getD k false = false := by
  intro f
  induction f with
  | zero => intro k hk; simp [waitsT] at hk
  | succ f ih =>
    intro k hk
    cases hL : L.getD k false with
    | false => rfl
    | true =>
      unfold waitsT at hk
      split at hk
      · rename_i o ho
        obtain ⟨x, hx, he⟩ := Array.any_eq_true.1 hk
        simp only [Bool.and_eq_true, Bool.or_eq_true, beq_iff_eq] at he
        have h1 := h k o ho hL _ (Array.getElem_mem hx) he.1
        rcases he.2 with e | e
        · rw [e, hi] at h1; cases h1
        · rw [ih _ e] at h1; cases h1
      · cases hk
def tailWaitsT (md : Region.Mode) (ops : Array Oper) (n i : Nat) : Bool := (List.range ops.size).all fun j => decide (j < n) || waitsT md ops i ops.size j
theorem tailT_lt {i j : Nat} {L : Array Bool} (hc : Closed md ops L) (h : tailWaitsT md ops n i = true) (hi : L.getD i true = false) (hj : j ∈ Region.ready md ops L) : j < n := by
  have hif : L.getD i false = false := by
    rcases Nat.lt_or_ge i L.size with h' | h'
    · simp only [Array.getD, h', dite_true] at hi ⊢; exact hi
    · simp [Array.getD, Nat.not_lt.2 h'] at hi
  obtain ⟨hu, o, ho, hall⟩ := mem_ready.1 hj
  have hjs : j < ops.size := (Array.getElem?_eq_some_iff.1 ho).1
  have h1 := List.all_eq_true.1 h j (List.mem_range.2 hjs)
  simp only [Bool.or_eq_true, decide_eq_true_eq] at h1
  rcases h1 with h1 | h1
  · exact h1
  · exfalso
    obtain ⟨f, hf⟩ : ∃ f, ops.size = f + 1 := ⟨ops.size - 1, by omega⟩
    rw [hf] at h1
    unfold waitsT at h1
    rw [ho] at h1
    obtain ⟨x, hx, he⟩ := Array.any_eq_true.1 h1
    simp only [Bool.and_eq_true, Bool.or_eq_true, beq_iff_eq] at he
    have h2 := hall _ (Array.getElem_mem hx) he.1
    rcases he.2 with e | e
    · rw [e, hif] at h2; cases h2
    · rw [waitsT_no hc hif _ _ e] at h2; cases h2
theorem wpT_firstT {i : Nat} {oi : Oper} {v : Value} (hi : ops[i]? = some oi) (hsel : ∀ (j : Nat) (o : Oper) cs b, ops[j]? = some o → o.op ≠ .select cs b) (htail : tailWaitsT md ops n i = true)
    (hQ : ∀ c a w, Q (.panic c) (a.put oi.dst v) w → Q (.panic c) a w) :
    ∀ (g : Nat) (L : Array Bool) (a : Act) (w : World), Closed md ops L →
      (∀ j oj, ops[j]? = some oj → j ≠ i → L.getD j true = false → (∀ e ∈ oj.after, Region.binds md e = true → e.on ≠ i) → oi.apart ops oj = true) →
      i ∈ Region.ready md ops L → YieldsIf P ops S oi v a → S w → wpT P md ops Q S n g (L.setIfInBounds i true) (a.put oi.dst v) w → wpT P md ops Q S n (g + 1) L a w := by
  intro g
  induction g with
  | zero =>
    intro L a w _ _ hr hy hS H
    refine ⟨fun h => (by rw [h] at hr; cases hr), fun j hj => ?_⟩
    by_cases hji : j = i
    · subst hji
      exact hy.wpOp hi hS ⟨fun _ => hS, H⟩
    · have h1 := ready_mono hj hji
      rw [H.1] at h1
      cases h1
  | succ g ih =>
    intro L a w hc hfree hr hy hS H
    refine ⟨fun h => (by rw [h] at hr; cases hr), fun j hj => ?_⟩
    by_cases hji : j = i
    · subst hji
      exact hy.wpOp hi hS ⟨fun _ => hS, H⟩
    have hiL := (mem_ready.1 hr).1
    have hjn : j < n := tailT_lt hc htail hiL hj
    have h1 := H.2 j (ready_mono hj hji)
    obtain ⟨hju, oj, hoj, hall⟩ := mem_ready.1 hj
    have hno : ∀ e ∈ oj.after, Region.binds md e = true → e.on ≠ i := by
      intro e he hb hei
      have h2 := hall e he hb
      rw [hei] at h2
      rcases Nat.lt_or_ge i L.size with h' | h'
      · simp only [Array.getD, h', dite_true] at hiL h2
        exact absurd (hiL.symm.trans h2) (by simp)
      · simp [Array.getD, Nat.not_lt.2 h'] at hiL
    have h2 := wpOp_putIf hoj (hfree j oj hoj hji hju hno) (fun cs b => hsel i oi cs b hi) (fun cs b => hsel j oj cs b hoj) hQ hy h1
    refine wpOp_mono (fun a' w' h3 => ⟨h3.2.1, ?_⟩) h2
    refine ih (L.setIfInBounds j true) a' w' (closed_step hc hj) (fun k ok hk hki hun hno' => ?_) (ready_mono hr (Ne.symm hji)) h3.1 (h3.2.1 hjn) ?_
    · refine hfree k ok hk hki ?_ hno'
      by_cases hjk : j = k
      · subst hjk; exact hju
      · rw [getD_set_ne true hjk] at hun; exact hun
    · rw [Array.setIfInBounds_comm _ _ hji]
      exact h3.2.2
/-- Take number i first; the tail waits for it through others. -/
theorem wpT_takeT {i : Nat} {oi : Oper} {v : Value} {g : Nat} {L : Array Bool} {a : Act} {w : World} (hi : ops[i]? = some oi)
    (hs : Region.noSelect ops = true) (hf : Region.free md ops L i = true) (hr : (Region.ready md ops L).contains i = true) (ht : tailWaitsT md ops n i = true) (hc : closedB md ops L = true)
    (hQ : ∀ c a w, Q (.panic c) (a.put oi.dst v) w → Q (.panic c) a w) (hy : YieldsIf P ops S oi v a) (hS : S w)
    (h : wpT P md ops Q S n g (L.setIfInBounds i true) (a.put oi.dst v) w) : wpT P md ops Q S n (g + 1) L a w :=
  wpT_firstT hi (Region.noSelect_spec hs) ht hQ g L a w (closed_of hc) (Region.free_spec hi hf) (by simpa using hr) hy hS h
end
end Go.Proofs.YtcacembpegoghaaDoor
