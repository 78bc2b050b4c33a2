/-
  What is wrong with a conversation, in plain words: the program's walk with a budget (gchk), the reference's stack (gchkList): they gagree.
-/
import Derived.Test.YtcacembpegoghaaDoorGlS
namespace Go.Proofs.YtcacembpegoghaaDoor
open Go.RowKit Go.Proofs

mutual
/-- Where a chain of Recs ends. -/
def gbottom : Gl → Gl
  | .mk k f o s n ls ks => if k = 8 ∧ ks.length = 1 then gbottomF ks else .mk k f o s n ls ks
def gbottomF : List Gl → Gl
  | [] => .mk 0 [] [] 0 [] [] []
  | t :: _ => gbottom t
end
mutual
/-- The program's: the error, and what is left. -/
def gchk : Gl → List Str → Int → Int × Int
  | .mk k f o s n ls ks, bound, left =>
    if left - 1 < 0 then (2, left - 1)
    else if gShape k f o s n ls ks.length = false then (1, left - 1)
    else if k = 9 then (if n ∈ bound then gchkKids ks bound (left - 1) else (4, left - 1))
    else if k = 8 then (if (gbottom (.mk k f o s n ls ks)).kind = 9 then (7, left - 1) else gchkKids ks (bound ++ [n]) (left - 1))
    else gchkKids ks bound (left - 1)
def gchkKids : List Gl → List Str → Int → Int × Int
  | [], _, left => (0, left)
  | k :: r, bound, left => if (gchk k bound left).1 ≠ 0 then gchk k bound left else gchkKids r bound (gchk k bound left).2
end
/-- The reference's: m gparts may still come. -/
def gchkList : Nat → List (Gl × List Str) → Int
  | _, [] => 0
  | 0, _ :: _ => 2
  | m + 1, (t, b) :: rest =>
    if gShape t.kind t.frm t.rcv t.sort t.name t.labels t.kids.length = false then 1
    else if t.kind = 9 ∧ ¬ t.name ∈ b then 4
    else if t.kind = 8 then (if (gbottom t).kind = 9 then 7 else gchkList m ((t.kids.map fun c => (c, b ++ [t.name])) ++ rest))
    else gchkList m ((t.kids.map fun c => (c, b)) ++ rest)
/-- What is wrong with a conversation (P11). -/
def glErr (t : Gl) : Int := (gchk t [] 60).1

def GAgree (m : Nat) (x : Int × Int) (stack rest : List (Gl × List Str)) : Prop :=
  (x.1 ≠ 0 → gchkList m stack = x.1) ∧ (x.1 = 0 → ∃ j : Nat, x.2 = j ∧ gchkList m stack = gchkList j rest)

mutual
theorem gagree : ∀ (t : Gl) (b : List Str) (rest : List (Gl × List Str)) (m : Nat), GAgree m (gchk t b m) ((t, b) :: rest) rest
  | .mk k f o s n ls ks, b, rest, m => by
    cases m with
    | zero => simp [GAgree, gchk, gchkList]
    | succ m =>
      have hm : ((m + 1 : Nat) : Int) - 1 = (m : Int) := by omega
      have h0 : ¬ (m : Int) < 0 := by omega
      have hc : gchkList (m + 1) ((.mk k f o s n ls ks, b) :: rest) = (if gShape k f o s n ls ks.length = false then 1 else if k = 9 ∧ ¬ n ∈ b then 4 else if k = 8 then (if (gbottom (.mk k f o s n ls ks)).kind = 9 then 7 else gchkList m ((ks.map fun c => (c, b ++ [n])) ++ rest)) else gchkList m ((ks.map fun c => (c, b)) ++ rest)) := rfl
      have h4 := gagreeKids ks b rest m
      have h5 := gagreeKids ks (b ++ [n]) rest m
      unfold GAgree at h4 h5 ⊢
      rw [hc]
      simp only [gchk]
      rw [hm, if_neg h0]
      by_cases h1 : gShape k f o s n ls ks.length = false
      · rw [if_pos h1, if_pos h1]; simp
      rw [if_neg h1, if_neg h1]
      by_cases h9 : k = 9
      · by_cases hb : n ∈ b
        · rw [if_pos h9, if_pos hb, if_neg (fun h : k = 9 ∧ ¬ n ∈ b => h.2 hb), if_neg (by omega)]; exact h4
        · rw [if_pos h9, if_neg hb, if_pos ⟨h9, hb⟩]; simp
      · rw [if_neg h9, if_neg (fun h : k = 9 ∧ ¬ n ∈ b => h9 h.1)]
        by_cases h8 : k = 8
        · rw [if_pos h8, if_pos h8]
          by_cases hq : (gbottom (.mk k f o s n ls ks)).kind = 9
          · rw [if_pos hq, if_pos hq]; simp
          · rw [if_neg hq, if_neg hq]; exact h5
        · rw [if_neg h8, if_neg h8]; exact h4
theorem gagreeKids : ∀ (ks : List Gl) (b : List Str) (rest : List (Gl × List Str)) (m : Nat), GAgree m (gchkKids ks b m) ((ks.map fun c => (c, b)) ++ rest) rest
  | [], b, rest, m => ⟨fun h => absurd rfl h, fun _ => ⟨m, rfl, rfl⟩⟩
  | k :: r, b, rest, m => by
    have h1 := gagree k b ((r.map fun c => (c, b)) ++ rest) m
    simp only [gchkKids, List.map_cons, List.cons_append]
    by_cases he : (gchk k b m).1 = 0
    · obtain ⟨j, hj, hl⟩ := h1.2 he
      have h2 := gagreeKids r b rest j
      simp only [he, ne_eq, not_true, if_false, hj]
      refine ⟨fun h => by rw [hl]; exact h2.1 h, fun h => ?_⟩
      obtain ⟨i, hi, hl2⟩ := h2.2 h
      exact ⟨i, hi, by rw [hl, hl2]⟩
    · simp only [if_pos he]
      exact ⟨fun _ => h1.1 he, fun h => absurd h he⟩
end
theorem glErr_list (t : Gl) : gchkList 60 [(t, [])] = glErr t := by
  have := gagree t [] [] 60
  unfold glErr
  by_cases h : (gchk t [] (60 : Nat)).1 = 0
  · obtain ⟨j, -, hl⟩ := this.2 h
    rw [hl]
    cases j <;> exact h.symm
  · exact this.1 h
mutual
def gparts : Gl → Nat
  | .mk _ _ _ _ _ _ ks => 1 + gpartss ks
def gpartss : List Gl → Nat
  | [] => 0
  | t :: r => gparts t + gpartss r
end
mutual
theorem gchk_parts : ∀ (t : Gl) (b : List Str) (left : Int), (gchk t b left).1 = 0 → (gchk t b left).2 = left - gparts t ∧ 0 ≤ (gchk t b left).2
  | .mk k f o s n ls ks, b, left, h => by
    simp only [gchk] at h ⊢
    by_cases h1 : left - 1 < 0
    · rw [if_pos h1] at h; simp at h
    rw [if_neg h1] at h ⊢
    by_cases h2 : gShape k f o s n ls ks.length = false
    · rw [if_pos h2] at h; simp at h
    rw [if_neg h2] at h ⊢
    have fin : ∀ b', (gchkKids ks b' (left - 1)).1 = 0 → (gchkKids ks b' (left - 1)).2 = left - gparts (.mk k f o s n ls ks) ∧ 0 ≤ (gchkKids ks b' (left - 1)).2 := by
      intro b' h'
      obtain ⟨e1, e2⟩ := gchkKids_parts ks b' (left - 1) (by omega) h'
      refine ⟨?_, e2⟩
      rw [e1]; simp only [gparts]; omega
    by_cases h9 : k = 9
    · rw [if_pos h9] at h ⊢
      by_cases hb : n ∈ b
      · rw [if_pos hb] at h ⊢; exact fin _ h
      · rw [if_neg hb] at h; simp at h
    rw [if_neg h9] at h ⊢
    by_cases h8 : k = 8
    · rw [if_pos h8] at h ⊢
      by_cases hq : (gbottom (.mk k f o s n ls ks)).kind = 9
      · rw [if_pos hq] at h; simp at h
      · rw [if_neg hq] at h ⊢; exact fin _ h
    · rw [if_neg h8] at h ⊢; exact fin _ h
theorem gchkKids_parts : ∀ (ks : List Gl) (b : List Str) (left : Int), 0 ≤ left → (gchkKids ks b left).1 = 0 → (gchkKids ks b left).2 = left - gpartss ks ∧ 0 ≤ (gchkKids ks b left).2
  | [], _, left, h0, _ => by simp [gchkKids, gpartss, h0]
  | k :: r, b, left, h0, h => by
    simp only [gchkKids] at h ⊢
    by_cases h1 : (gchk k b left).1 = 0
    · rw [if_neg (by simpa using h1)] at h ⊢
      obtain ⟨e1, e2⟩ := gchk_parts k b left h1
      obtain ⟨e3, e4⟩ := gchkKids_parts r b _ e2 h
      refine ⟨?_, e4⟩
      rw [e3, e1]; simp only [gpartss]; omega
    · rw [if_pos h1] at h; exact absurd h h1
end
theorem gparts_ok {t : Gl} (h : glErr t = 0) : gparts t ≤ 60 := by
  obtain ⟨h1, h2⟩ := gchk_parts t [] 60 h
  omega

theorem gparts_at : ∀ {ks : List Gl} {t : Gl}, t ∈ ks → gparts t ≤ gpartss ks
  | [], t, h => by simp at h
  | k :: r, t, h => by
    simp only [gpartss]
    rcases List.mem_cons.1 h with rfl | h
    · omega
    · have := gparts_at h; omega
end Go.Proofs.YtcacembpegoghaaDoor
