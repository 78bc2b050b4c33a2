/-
  The plain law of types, second part: how many parts, how long a text; the text of a choice, pair by pair.
-/
import Derived.Test.YtcacembpegoghaaDoorTyP
namespace Go.Proofs.YtcacembpegoghaaDoor
open Go.RowKit Go.Proofs

mutual
def parts : Ty → Nat
  | .mk _ _ _ _ ks => 1 + partss ks
def partss : List Ty → Nat
  | [] => 0
  | t :: r => parts t + partss r
end
mutual
theorem chk_parts : ∀ (t : Ty) (b : List Str) (left : Int), (chk t b left).1 = 0 → (chk t b left).2 = left - parts t ∧ 0 ≤ (chk t b left).2
  | .mk k s n ls ks, b, left, h => by
    simp only [chk] at h ⊢
    by_cases h1 : left - 1 < 0
    · rw [if_pos h1] at h; simp at h
    rw [if_neg h1] at h ⊢
    by_cases h2 : shapeOk k s n ls ks.length = false
    · rw [if_pos h2] at h; simp at h
    rw [if_neg h2] at h ⊢
    have fin : ∀ b', (chkKids ks b' (left - 1)).1 = 0 → (chkKids ks b' (left - 1)).2 = left - parts (.mk k s n ls ks) ∧ 0 ≤ (chkKids ks b' (left - 1)).2 := by
      intro b' h'
      obtain ⟨e1, e2⟩ := chkKids_parts ks b' (left - 1) (by omega) h'
      refine ⟨?_, e2⟩
      rw [e1]; simp only [parts]; omega
    by_cases h9 : k = 9
    · rw [if_pos h9] at h ⊢
      by_cases hb : n ∈ b
      · rw [if_pos hb] at h ⊢; exact fin _ h
      · rw [if_neg hb] at h; simp at h
    rw [if_neg h9] at h ⊢
    by_cases h8 : k = 8
    · rw [if_pos h8] at h ⊢
      by_cases hq : (bottom (.mk k s n ls ks)).kind = 9
      · rw [if_pos hq] at h; simp at h
      · rw [if_neg hq] at h ⊢; exact fin _ h
    · rw [if_neg h8] at h ⊢; exact fin _ h
theorem chkKids_parts : ∀ (ks : List Ty) (b : List Str) (left : Int), 0 ≤ left → (chkKids ks b left).1 = 0 → (chkKids ks b left).2 = left - partss ks ∧ 0 ≤ (chkKids ks b left).2
  | [], _, left, h0, _ => by simp [chkKids, partss, h0]
  | k :: r, b, left, h0, h => by
    simp only [chkKids] at h ⊢
    by_cases h1 : (chk k b left).1 = 0
    · rw [if_neg (by simpa using h1)] at h ⊢
      obtain ⟨e1, e2⟩ := chk_parts k b left h1
      obtain ⟨e3, e4⟩ := chkKids_parts r b _ e2 h
      refine ⟨?_, e4⟩
      rw [e3, e1]; simp only [partss]; omega
    · rw [if_pos h1] at h; exact absurd h h1
end
theorem parts_ok {t : Ty} (h : tyErr t = 0) : parts t ≤ 60 := by
  obtain ⟨h1, h2⟩ := chk_parts t [] 60 h
  omega

theorem sortWord_len (s : Int) : (sortWord s).length ≤ 4 := by
  unfold sortWord; repeat' split
  all_goals simp
/-- The bytes of some texts. -/
def total : List Str → Nat
  | [] => 0
  | s :: r => s.length + total r
theorem getD_total (l : List Str) (i : Nat) : (l.getD i []).length ≤ total l := by
  induction l generalizing i with
  | nil => simp
  | cons x r ih =>
    cases i with
    | zero => simp [total]
    | succ i => have := ih i; simp only [List.getD_cons_succ, total]; omega
theorem getD_two (l : List Str) : (l.getD 0 []).length + (l.getD 1 []).length ≤ total l := by
  cases l with
  | nil => simp
  | cons x r => have := getD_total r 0; simp only [List.getD_cons_zero, List.getD_cons_succ, total]; omega
theorem joined_len : ∀ (l : List Str), (joined l).length ≤ total l + l.length
  | [] => by simp [joined]
  | [a] => by simp [joined, total]
  | a :: b :: r => by
    have := joined_len (b :: r)
    simp only [joined, total, List.length_append, List.length_cons, List.length_nil] at this ⊢
    omega
theorem pairs_total : ∀ (ls ts : List Str), (∀ l ∈ ls, l.length ≤ 8) → total (pairs ls ts) ≤ total ts + 9 * ls.length ∧ (pairs ls ts).length ≤ ls.length
  | [], _, _ => by simp [pairs, total]
  | _ :: _, [], _ => by simp [pairs, total]
  | l :: ls, t :: ts, h => by
    obtain ⟨h1, h2⟩ := pairs_total ls ts fun x hx => h x (by simp [hx])
    have := h l (by simp)
    simp only [pairs, total, List.length_append, List.length_cons, List.length_nil] at h1 h2 ⊢
    omega
theorem txtOf_len {k s : Int} {n : Str} {ls ts : List Str} (hn : n.length ≤ 8) (hl : ls.length ≤ 6) (hls : ∀ l ∈ ls, l.length ≤ 8) : (txtOf k s n ls ts).length ≤ 100 + total ts := by
  have h1 := sortWord_len s
  have h2 := getD_total ts 0
  have h3 := getD_two ts
  have h4 := joined_len (pairs ls ts)
  obtain ⟨h5, h6⟩ := pairs_total ls ts hls
  unfold txtOf
  repeat' split
  all_goals (try simp only [List.length_append, List.length_cons, List.length_nil])
  all_goals omega
mutual
theorem txt_len : ∀ t : Ty, Good t → (txt t).length ≤ 100 * parts t
  | .mk k s n ls ks, h => by
    obtain ⟨h1, h2, h3, -⟩ := h.small
    have h4 := txts_len ks h.kid
    have := txtOf_len (k := k) (s := s) (ts := txts ks) h1 h2 h3
    simp only [txt, parts, Ty.name, Ty.labels] at *
    omega
theorem txts_len : ∀ ks : List Ty, (∀ t ∈ ks, Good t) → total (txts ks) ≤ 100 * partss ks
  | [], _ => by simp [txts, total]
  | t :: r, h => by
    have h1 := txt_len t (h t (by simp))
    have h2 := txts_len r fun k hk => h k (by simp [hk])
    simp only [txts, total, partss]
    omega
end
theorem txts_length : ∀ ks : List Ty, (txts ks).length = ks.length
  | [] => rfl
  | t :: r => by simp [txts, txts_length r]
theorem txts_at : ∀ {ks : List Ty} {i : Nat} {t : Ty}, ks[i]? = some t → (txts ks)[i]? = some (txt t)
  | [], i, t, h => by simp at h
  | k :: r, 0, t, h => by simp at h; subst h; rfl
  | k :: r, i + 1, t, h => by simp only [txts, List.getElem?_cons_succ] at h ⊢; exact txts_at h
theorem parts_at : ∀ {ks : List Ty} {t : Ty}, t ∈ ks → parts t ≤ partss ks
  | [], t, h => by simp at h
  | k :: r, t, h => by
    simp only [partss]
    rcases List.mem_cons.1 h with rfl | h
    · omega
    · have := parts_at h; omega
theorem joined_snoc : ∀ (l : List Str) (a : Str), l ≠ [] → joined (l ++ [a]) = joined l ++ [44] ++ a
  | [], _, h => absurd rfl h
  | [x], a, _ => by simp [joined]
  | x :: y :: r, a, _ => by
    have := joined_snoc (y :: r) a (by simp)
    simp only [List.cons_append, joined] at this ⊢
    rw [this]
    simp
end Go.Proofs.YtcacembpegoghaaDoor
