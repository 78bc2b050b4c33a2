/-
  What is wrong with a type, in plain words: the program's walk with a budget (chk), the reference's stack (chkList): they agree.
-/
import Derived.Test.YtcacembpegoghaaDoorTyS2
namespace Go.Proofs.YtcacembpegoghaaDoor
open Go.RowKit Go.Proofs

mutual
/-- Where a chain of Recs ends. -/
def bottom : Ty → Ty
  | .mk k s n ls ks => if k = 8 ∧ ks.length = 1 then bottomF ks else .mk k s n ls ks
def bottomF : List Ty → Ty
  | [] => .mk 0 0 [] [] []
  | t :: _ => bottom t
end
mutual
/-- The program's: the error, and what is left. -/
def chk : Ty → List Str → Int → Int × Int
  | .mk k s n ls ks, bound, left =>
    if left - 1 < 0 then (2, left - 1)
    else if shapeOk k s n ls ks.length = false then (1, left - 1)
    else if k = 9 then (if n ∈ bound then chkKids ks bound (left - 1) else (4, left - 1))
    else if k = 8 then (if (bottom (.mk k s n ls ks)).kind = 9 then (7, left - 1) else chkKids ks (bound ++ [n]) (left - 1))
    else chkKids ks bound (left - 1)
def chkKids : List Ty → List Str → Int → Int × Int
  | [], _, left => (0, left)
  | k :: r, bound, left => if (chk k bound left).1 ≠ 0 then chk k bound left else chkKids r bound (chk k bound left).2
end
/-- The reference's: m parts may still come. -/
def chkList : Nat → List (Ty × List Str) → Int
  | _, [] => 0
  | 0, _ :: _ => 2
  | m + 1, (t, b) :: rest =>
    if shapeOk t.kind t.sort t.name t.labels t.kids.length = false then 1
    else if t.kind = 9 ∧ ¬ t.name ∈ b then 4
    else if t.kind = 8 then (if (bottom t).kind = 9 then 7 else chkList m ((t.kids.map fun c => (c, b ++ [t.name])) ++ rest))
    else chkList m ((t.kids.map fun c => (c, b)) ++ rest)
/-- What is wrong with a type (P11). -/
def tyErr (t : Ty) : Int := (chk t [] 60).1

def Agree (m : Nat) (x : Int × Int) (stack rest : List (Ty × List Str)) : Prop :=
  (x.1 ≠ 0 → chkList m stack = x.1) ∧ (x.1 = 0 → ∃ j : Nat, x.2 = j ∧ chkList m stack = chkList j rest)

mutual
theorem agree : ∀ (t : Ty) (b : List Str) (rest : List (Ty × List Str)) (m : Nat), Agree m (chk t b m) ((t, b) :: rest) rest
  | .mk k s n ls ks, b, rest, m => by
    cases m with
    | zero => simp [Agree, chk, chkList]
    | succ m =>
      have hm : ((m + 1 : Nat) : Int) - 1 = (m : Int) := by omega
      have h0 : ¬ (m : Int) < 0 := by omega
      have hc : chkList (m + 1) ((.mk k s n ls ks, b) :: rest) = (if shapeOk k s n ls ks.length = false then 1 else if k = 9 ∧ ¬ n ∈ b then 4 else if k = 8 then (if (bottom (.mk k s n ls ks)).kind = 9 then 7 else chkList m ((ks.map fun c => (c, b ++ [n])) ++ rest)) else chkList m ((ks.map fun c => (c, b)) ++ rest)) := rfl
      have h4 := agreeKids ks b rest m
      have h5 := agreeKids ks (b ++ [n]) rest m
      unfold Agree at h4 h5 ⊢
      rw [hc]
      simp only [chk]
      rw [hm, if_neg h0]
      by_cases h1 : shapeOk k s n ls ks.length = false
      · rw [if_pos h1, if_pos h1]; simp
      rw [if_neg h1, if_neg h1]
      by_cases h9 : k = 9
      · by_cases hb : n ∈ b
        · rw [if_pos h9, if_pos hb, if_neg (fun h : k = 9 ∧ ¬ n ∈ b => h.2 hb), if_neg (by omega)]; exact h4
        · rw [if_pos h9, if_neg hb, if_pos ⟨h9, hb⟩]; simp
      · rw [if_neg h9, if_neg (fun h : k = 9 ∧ ¬ n ∈ b => h9 h.1)]
        by_cases h8 : k = 8
        · rw [if_pos h8, if_pos h8]
          by_cases hq : (bottom (.mk k s n ls ks)).kind = 9
          · rw [if_pos hq, if_pos hq]; simp
          · rw [if_neg hq, if_neg hq]; exact h5
        · rw [if_neg h8, if_neg h8]; exact h4
theorem agreeKids : ∀ (ks : List Ty) (b : List Str) (rest : List (Ty × List Str)) (m : Nat), Agree m (chkKids ks b m) ((ks.map fun c => (c, b)) ++ rest) rest
  | [], b, rest, m => ⟨fun h => absurd rfl h, fun _ => ⟨m, rfl, rfl⟩⟩
  | k :: r, b, rest, m => by
    have h1 := agree k b ((r.map fun c => (c, b)) ++ rest) m
    simp only [chkKids, List.map_cons, List.cons_append]
    by_cases he : (chk k b m).1 = 0
    · obtain ⟨j, hj, hl⟩ := h1.2 he
      have h2 := agreeKids r b rest j
      simp only [he, ne_eq, not_true, if_false, hj]
      refine ⟨fun h => by rw [hl]; exact h2.1 h, fun h => ?_⟩
      obtain ⟨i, hi, hl2⟩ := h2.2 h
      exact ⟨i, hi, by rw [hl, hl2]⟩
    · simp only [if_pos he]
      exact ⟨fun _ => h1.1 he, fun h => absurd h he⟩
end
theorem tyErr_list (t : Ty) : chkList 60 [(t, [])] = tyErr t := by
  have := agree t [] [] 60
  unfold tyErr
  by_cases h : (chk t [] (60 : Nat)).1 = 0
  · obtain ⟨j, -, hl⟩ := this.2 h
    rw [hl]
    cases j <;> exact h.symm
  · exact this.1 h
end Go.Proofs.YtcacembpegoghaaDoor
