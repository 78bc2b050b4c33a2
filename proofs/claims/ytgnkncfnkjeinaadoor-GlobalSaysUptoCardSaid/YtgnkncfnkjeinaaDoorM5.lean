/-
  What is wrong with a type, in plain words: the program's walk with a budget (chk), the reference's stack (chkList): they agree.
  The plain law of types: good types, their size and text, what is put in the place of a name, heads.
  The plain law of types, second part: how many parts, how long a text; the text of a choice, pair by pair.
  Rows of types that a call makes itself: what the cells of a row say, one behind the other; append of rows.
-/
import Derived.Test.YtgnkncfnkjeinaaDoorM4
import Derived.Laws.AppendOwnNone
namespace Go.Proofs.YtgnkncfnkjeinaaDoor
open Go.RowKit Go.Proofs

mutual
/-- Where a chain of Recs ends. -/
def bottom : Ty → Ty
  | .mk k s n ls ks => if k = 8 ∧ ks.length = 1 then bottomF ks else .mk k s n ls ks
def bottomF : List Ty → Ty
  | [] => .mk 0 0 [] [] []
  | t :: _ => bottom t
end
mutual
/-- The program's: the error, and what is left. -/
def chk : Ty → List Str → Int → Int × Int
  | .mk k s n ls ks, bound, left =>
    if left - 1 < 0 then (2, left - 1)
    else if shapeOk k s n ls ks.length = false then (1, left - 1)
    else if k = 9 then (if n ∈ bound then chkKids ks bound (left - 1) else (4, left - 1))
    else if k = 8 then (if (bottom (.mk k s n ls ks)).kind = 9 then (7, left - 1) else chkKids ks (bound ++ [n]) (left - 1))
    else chkKids ks bound (left - 1)
def chkKids : List Ty → List Str → Int → Int × Int
  | [], _, left => (0, left)
  | k :: r, bound, left => if (chk k bound left).1 ≠ 0 then chk k bound left else chkKids r bound (chk k bound left).2
end
/-- The reference's: m parts may still come. -/
def chkList : Nat → List (Ty × List Str) → Int
  | _, [] => 0
  | 0, _ :: _ => 2
  | m + 1, (t, b) :: rest =>
    if shapeOk t.kind t.sort t.name t.labels t.kids.length = false then 1
    else if t.kind = 9 ∧ ¬ t.name ∈ b then 4
    else if t.kind = 8 then (if (bottom t).kind = 9 then 7 else chkList m ((t.kids.map fun c => (c, b ++ [t.name])) ++ rest))
    else chkList m ((t.kids.map fun c => (c, b)) ++ rest)
/-- What is wrong with a type (P11). -/
def tyErr (t : Ty) : Int := (chk t [] 60).1

def Agree (m : Nat) (x : Int × Int) (stack rest : List (Ty × List Str)) : Prop :=
  (x.1 ≠ 0 → chkList m stack = x.1) ∧ (x.1 = 0 → ∃ j : Nat, x.2 = j ∧ chkList m stack = chkList j rest)

mutual
theorem agree : ∀ (t : Ty) (b : List Str) (rest : List (Ty × List Str)) (m : Nat), Agree m (chk t b m) ((t, b) :: rest) rest
  | .mk k s n ls ks, b, rest, m => by
    cases m with
    | zero => simp [Agree, chk, chkList]
    | succ m =>
      have hm : ((m + 1 : Nat) : Int) - 1 = (m : Int) := by omega
      have h0 : ¬ (m : Int) < 0 := by omega
      have hc : chkList (m + 1) ((.mk k s n ls ks, b) :: rest) = (if shapeOk k s n ls ks.length = false then 1 else if k = 9 ∧ ¬ n ∈ b then 4 else if k = 8 then (if (bottom (.mk k s n ls ks)).kind = 9 then 7 else chkList m ((ks.map fun c => (c, b ++ [n])) ++ rest)) else chkList m ((ks.map fun c => (c, b)) ++ rest)) := rfl
      have h4 := agreeKids ks b rest m
      have h5 := agreeKids ks (b ++ [n]) rest m
      unfold Agree at h4 h5 ⊢
      rw [hc]
      simp only [chk]
      rw [hm, if_neg h0]
      by_cases h1 : shapeOk k s n ls ks.length = false
      · rw [if_pos h1, if_pos h1]; simp
      rw [if_neg h1, if_neg h1]
      by_cases h9 : k = 9
      · by_cases hb : n ∈ b
        · rw [if_pos h9, if_pos hb, if_neg (fun h : k = 9 ∧ ¬ n ∈ b => h.2 hb), if_neg (by omega)]; exact h4
        · rw [if_pos h9, if_neg hb, if_pos ⟨h9, hb⟩]; simp
      · rw [if_neg h9, if_neg (fun h : k = 9 ∧ ¬ n ∈ b => h9 h.1)]
        by_cases h8 : k = 8
        · rw [if_pos h8, if_pos h8]
          by_cases hq : (bottom (.mk k s n ls ks)).kind = 9
          · rw [if_pos hq, if_pos hq]; simp
          · rw [if_neg hq, if_neg hq]; exact h5
        · rw [if_neg h8, if_neg h8]; exact h4
theorem agreeKids : ∀ (ks : List Ty) (b : List Str) (rest : List (Ty × List Str)) (m : Nat), Agree m (chkKids ks b m) ((ks.map fun c => (c, b)) ++ rest) rest
  | [], b, rest, m => ⟨fun h => absurd rfl h, fun _ => ⟨m, rfl, rfl⟩⟩
  | k :: r, b, rest, m => by
    have h1 := agree k b ((r.map fun c => (c, b)) ++ rest) m
    simp only [chkKids, List.map_cons, List.cons_append]
    by_cases he : (chk k b m).1 = 0
    · obtain ⟨j, hj, hl⟩ := h1.2 he
      have h2 := agreeKids r b rest j
      simp only [he, ne_eq, not_true, if_false, hj]
      refine ⟨fun h => by rw [hl]; exact h2.1 h, fun h => ?_⟩
      obtain ⟨i, hi, hl2⟩ := h2.2 h
      exact ⟨i, hi, by rw [hl, hl2]⟩
    · simp only [if_pos he]
      exact ⟨fun _ => h1.1 he, fun h => absurd h he⟩
end
theorem tyErr_list (t : Ty) : chkList 60 [(t, [])] = tyErr t := by
  have := agree t [] [] 60
  unfold tyErr
  by_cases h : (chk t [] (60 : Nat)).1 = 0
  · obtain ⟨j, -, hl⟩ := this.2 h
    rw [hl]
    cases j <;> exact h.symm
  · exact this.1 h
end Go.Proofs.YtgnkncfnkjeinaaDoor
namespace Go.Proofs.YtgnkncfnkjeinaaDoor
open Go.RowKit Go.Proofs

/-- Every part has the shape of its kind. -/
inductive Good : Ty → Prop where
  | mk (k s : Int) (n : Str) (ls : List Str) (ks : List Ty) (h : shapeOk k s n ls ks.length = true) (hk : ∀ t ∈ ks, Good t) : Good (.mk k s n ls ks)

mutual
theorem good_of_chk : ∀ (t : Ty) (b : List Str) (left : Int), (chk t b left).1 = 0 → Good t
  | .mk k s n ls ks, b, left, h => by
    simp only [chk] at h
    by_cases h1 : left - 1 < 0
    · rw [if_pos h1] at h; simp at h
    rw [if_neg h1] at h
    by_cases h2 : shapeOk k s n ls ks.length = false
    · rw [if_pos h2] at h; simp at h
    rw [if_neg h2] at h
    refine .mk k s n ls ks (by simpa using h2) ?_
    by_cases h9 : k = 9
    · rw [if_pos h9] at h
      by_cases hb : n ∈ b
      · rw [if_pos hb] at h; exact good_kids ks _ _ h
      · rw [if_neg hb] at h; simp at h
    rw [if_neg h9] at h
    by_cases h8 : k = 8
    · rw [if_pos h8] at h
      by_cases hq : (bottom (.mk k s n ls ks)).kind = 9
      · rw [if_pos hq] at h; simp at h
      · rw [if_neg hq] at h; exact good_kids ks _ _ h
    · rw [if_neg h8] at h; exact good_kids ks _ _ h
theorem good_kids : ∀ (ks : List Ty) (b : List Str) (left : Int), (chkKids ks b left).1 = 0 → ∀ t ∈ ks, Good t
  | [], _, _, _ => by simp
  | k :: r, b, left, h => by
    simp only [chkKids] at h
    by_cases h1 : (chk k b left).1 = 0
    · rw [if_neg (by simpa using h1)] at h
      have g1 := good_of_chk k b left h1
      have g2 := good_kids r b _ h
      intro t ht
      rcases List.mem_cons.1 ht with e | ht
      · rw [e]; exact g1
      · exact g2 t ht
    · rw [if_pos h1] at h; exact absurd h h1
end

theorem Good.shape {t : Ty} (h : Good t) : shapeOk t.kind t.sort t.name t.labels t.kids.length = true := by cases h; assumption
theorem Good.kid {t : Ty} (h : Good t) : ∀ k ∈ t.kids, Good k := by cases h; assumption

/-- What a good part's kind says of it. -/
theorem okFrom_names : ∀ {l : List Str} {p : Option Str}, okFrom p l = true → ∀ s ∈ l, isName s = true := by
  intro l
  induction l with
  | nil => intro p _ s hs; simp at hs
  | cons x r ih =>
    intro p h s hs
    simp only [okFrom, Bool.and_eq_true] at h
    rcases List.mem_cons.1 hs with rfl | hs
    · exact h.1.1
    · exact ih h.2 s hs
theorem isName_len {s : Str} (h : isName s = true) : 1 ≤ s.length ∧ s.length ≤ 8 := by
  simp only [isName, small, Bool.and_eq_true, decide_eq_true_eq] at h
  exact ⟨h.1.1.2, h.1.2⟩
theorem isVar_len {s : Str} (h : isVar s = true) : 1 ≤ s.length ∧ s.length ≤ 8 := by
  simp only [isVar, Bool.and_eq_true] at h
  exact isName_len h.1
theorem labelsOk_len {l : List Str} (h : labelsOk l = true) : 1 ≤ l.length ∧ l.length ≤ 6 ∧ ∀ s ∈ l, s.length ≤ 8 := by
  simp only [labelsOk, Bool.and_eq_true, decide_eq_true_eq] at h
  exact ⟨h.1.2, h.2, fun s hs => (isName_len (okFrom_names h.1.1 s hs)).2⟩

/-- A good part, kind by kind. -/
inductive Shape : Int → Int → Str → List Str → Nat → Prop where
  | fin : Shape 1 0 [] [] 0
  | value (k s : Int) (hk : k = 2 ∨ k = 3) (h1 : 1 ≤ s) (h3 : s ≤ 3) : Shape k s [] [] 1
  | channel (k : Int) (hk : k = 4 ∨ k = 5) : Shape k 0 [] [] 2
  | choice (k : Int) (hk : k = 6 ∨ k = 7) (ls : List Str) (h : labelsOk ls = true) : Shape k 0 [] ls ls.length
  | loop (n : Str) (h : isVar n = true) : Shape 8 0 n [] 1
  | var (n : Str) (h : isVar n = true) : Shape 9 0 n [] 0

theorem shape_of {k s : Int} {n : Str} {ls : List Str} {c : Nat} (h : shapeOk k s n ls c = true) : Shape k s n ls c := by
  unfold shapeOk shapeN at h
  by_cases h1 : k = 1
  · simp only [h1, if_true, Bool.and_eq_true, decide_eq_true_eq, List.isEmpty_iff, List.length_eq_zero_iff] at h
    obtain ⟨⟨⟨rfl, rfl⟩, rfl⟩, rfl⟩ := h
    subst h1; exact .fin
  rw [if_neg h1] at h
  by_cases h2 : k = 2 ∨ k = 3
  · simp only [if_pos h2, Bool.and_eq_true, decide_eq_true_eq, List.isEmpty_iff, List.length_eq_zero_iff] at h
    obtain ⟨⟨⟨⟨ha, hb⟩, rfl⟩, rfl⟩, rfl⟩ := h
    exact .value k s h2 ha hb
  rw [if_neg h2] at h
  by_cases h4 : k = 4 ∨ k = 5
  · simp only [if_pos h4, Bool.and_eq_true, decide_eq_true_eq, List.isEmpty_iff, List.length_eq_zero_iff] at h
    obtain ⟨⟨⟨rfl, rfl⟩, rfl⟩, rfl⟩ := h
    exact .channel k h4
  rw [if_neg h4] at h
  by_cases h6 : k = 6 ∨ k = 7
  · simp only [if_pos h6, Bool.and_eq_true, decide_eq_true_eq, List.isEmpty_iff] at h
    obtain ⟨⟨⟨rfl, rfl⟩, hl⟩, rfl⟩ := h
    exact .choice k h6 ls hl
  rw [if_neg h6] at h
  by_cases h8 : k = 8
  · simp only [if_pos h8, Bool.and_eq_true, decide_eq_true_eq, List.length_eq_zero_iff] at h
    obtain ⟨⟨⟨rfl, hn⟩, rfl⟩, rfl⟩ := h
    subst h8; exact .loop n hn
  rw [if_neg h8] at h
  by_cases h9 : k = 9
  · simp only [if_pos h9, Bool.and_eq_true, decide_eq_true_eq, List.length_eq_zero_iff] at h
    obtain ⟨⟨⟨rfl, hn⟩, rfl⟩, rfl⟩ := h
    subst h9; exact .var n hn
  rw [if_neg h9] at h
  cases h

theorem Shape.small {k s : Int} {n : Str} {ls : List Str} {c : Nat} (h : Shape k s n ls c) : n.length ≤ 8 ∧ ls.length ≤ 6 ∧ (∀ l ∈ ls, l.length ≤ 8) ∧ c ≤ 6 ∧ 1 ≤ k ∧ k ≤ 9 ∧ 0 ≤ s ∧ s ≤ 3 := by
  cases h with
  | fin => simp
  | value k s hk h1 h3 => refine ⟨by simp, by simp, by simp, by omega, ?_, ?_, by omega, by omega⟩ <;> omega
  | channel k hk => refine ⟨by simp, by simp, by simp, by omega, ?_, ?_, by omega, by omega⟩ <;> omega
  | choice k hk ls h =>
    obtain ⟨h1, h2, h3⟩ := labelsOk_len h
    refine ⟨by simp, h2, h3, by omega, ?_, ?_, by omega, by omega⟩ <;> omega
  | loop n h => exact ⟨(isVar_len h).2, by simp, by simp, by omega, by omega, by omega, by omega, by omega⟩
  | var n h => exact ⟨(isVar_len h).2, by simp, by simp, by omega, by omega, by omega, by omega, by omega⟩

theorem Good.small {t : Ty} (h : Good t) : t.name.length ≤ 8 ∧ t.labels.length ≤ 6 ∧ (∀ l ∈ t.labels, l.length ≤ 8) ∧ t.kids.length ≤ 6 :=
  let h := (shape_of h.shape).small; ⟨h.1, h.2.1, h.2.2.1, h.2.2.2.1⟩

theorem Good.named {t : Ty} (h : Good t) (hk : t.kind = 8 ∨ t.kind = 9) : t.name ≠ [] := by
  have hs := shape_of h.shape
  have : isVar t.name = true := by
    cases t with
    | mk k s n ls ks =>
      simp only [Ty.kind, Ty.sort, Ty.name, Ty.labels, Ty.kids] at hs hk ⊢
      obtain ⟨c, hc⟩ : ∃ c, ks.length = c := ⟨_, rfl⟩
      rw [hc] at hs
      clear hc h
      cases hs with
      | fin => omega
      | value _ _ hk' => omega
      | channel _ hk' => omega
      | choice _ hk' => omega
      | loop _ h => exact h
      | var _ h => exact h
  intro h0
  have := (isVar_len this).1
  rw [h0] at this
  simp at this

mutual
/-- What is put in the place of a name. -/
def sub (x : Str) (u : Ty) : Ty → Ty
  | .mk k s n ls ks => if k = 9 ∧ n = x then u else if k = 8 ∧ n = x then .mk k s n ls ks else .mk k s n ls (subs x u ks)
def subs (x : Str) (u : Ty) : List Ty → List Ty
  | [] => []
  | t :: r => sub x u t :: subs x u r
end
theorem subs_map (x : Str) (u : Ty) : ∀ ks : List Ty, subs x u ks = ks.map (sub x u)
  | [] => rfl
  | t :: r => by simp [subs, subs_map x u r]

mutual
theorem sub_good (x : Str) {u : Ty} (hu : Good u) : ∀ t : Ty, Good t → Good (sub x u t)
  | .mk k s n ls ks, h => by
    simp only [sub]
    by_cases h1 : k = 9 ∧ n = x
    · rw [if_pos h1]; exact hu
    rw [if_neg h1]
    by_cases h2 : k = 8 ∧ n = x
    · rw [if_pos h2]; exact h
    rw [if_neg h2]
    refine .mk _ _ _ _ _ ?_ (subs_good x hu ks h.kid)
    have := h.shape
    rw [subs_map, List.length_map]
    exact this
theorem subs_good (x : Str) {u : Ty} (hu : Good u) : ∀ ks : List Ty, (∀ t ∈ ks, Good t) → ∀ t ∈ subs x u ks, Good t
  | [], _ => by simp [subs]
  | t :: r, h => by
    intro c hc
    simp only [subs] at hc
    rcases List.mem_cons.1 hc with rfl | hc
    · exact sub_good x hu t (h t (by simp))
    · exact subs_good x hu r (fun k hk => h k (by simp [hk])) c hc
end
mutual
/-- No good type has the empty name. -/
theorem sub_none (u : Ty) : ∀ t : Ty, Good t → sub [] u t = t
  | .mk k s n ls ks, h => by
    have hn := h.named
    simp only [Ty.kind, Ty.name] at hn
    simp only [sub]
    rw [if_neg (fun hc => hn (Or.inr hc.1) hc.2), if_neg (fun hc => hn (Or.inl hc.1) hc.2), subs_none u ks h.kid]
theorem subs_none (u : Ty) : ∀ ks : List Ty, (∀ t ∈ ks, Good t) → subs [] u ks = ks
  | [], _ => rfl
  | t :: r, h => by
    simp only [subs]
    rw [sub_none u t (h t (by simp)), subs_none u r fun k hk => h k (by simp [hk])]
end

/-- A chain of Recs that does not end in a Var. -/
def Chain : Nat → Ty → Prop
  | 0, t => t.kind ≠ 8 ∧ t.kind ≠ 9
  | n + 1, t => t.kind = 8 ∧ ∃ c, t.kids = [c] ∧ Chain n c
theorem chain_sub {x : Str} {u : Ty} : ∀ {n : Nat} {t : Ty}, Chain n t → Chain n (sub x u t) := by
  intro n
  induction n with
  | zero =>
    rintro ⟨k, s, nm, ls, ks⟩ ⟨h1, h2⟩
    simp only [Ty.kind] at h1 h2
    simp only [sub]
    rw [if_neg (fun h => h2 h.1), if_neg (fun h => h1 h.1)]
    exact ⟨h1, h2⟩
  | succ n ih =>
    rintro ⟨k, s, nm, ls, ks⟩ ⟨h1, c, h2, h3⟩
    simp only [Ty.kind, Ty.kids] at h1 h2
    subst h1 h2
    simp only [sub]
    rw [if_neg (fun h => by omega)]
    by_cases h : nm = x
    · rw [if_pos ⟨trivial, h⟩]; exact ⟨rfl, c, rfl, h3⟩
    · rw [if_neg fun hc => h hc.2]; exact ⟨rfl, _, rfl, ih h3⟩
theorem chain_of : ∀ (t : Ty), Good t → (bottom t).kind ≠ 9 → ∃ n, Chain n t
  | .mk k s n ls ks, h, hb => by
    by_cases h8 : k = 8
    · subst h8
      have hs := shape_of h.shape
      simp only [Ty.kind, Ty.sort, Ty.name, Ty.labels, Ty.kids] at hs
      have hl : ks.length = 1 := by
        have : ∀ {k s : Int} {n : Str} {ls : List Str} {c : Nat}, Shape k s n ls c → k = 8 → c = 1 := by
          intro k s n ls c h hk
          cases h <;> omega
        exact this hs rfl
      match ks, hl, h, hb with
      | [c], _, h, hb =>
        simp only [bottom, bottomF, List.length_singleton, and_self, if_true] at hb
        obtain ⟨m, hm⟩ := chain_of c (h.kid c (by simp [Ty.kids])) hb
        exact ⟨m + 1, rfl, c, rfl, hm⟩
    · refine ⟨0, h8, ?_⟩
      simpa [bottom, h8, Ty.kind] using hb
/-- Unfolded. -/
def headN : Nat → Ty → Ty
  | 0, t => t
  | n + 1, t => match t.kids with | [] => t | c :: _ => headN n (sub t.name t c)
theorem chain_ok {t : Ty} (h : tyErr t = 0) : ∃ n, Chain n t := by
  have hg := good_of_chk t [] 60 h
  refine chain_of t hg ?_
  unfold tyErr at h
  obtain ⟨k, s, n, ls, ks⟩ := t
  simp only [chk] at h
  rw [if_neg (by omega), if_neg (by rw [show shapeOk k s n ls ks.length = true from hg.shape]; simp)] at h
  by_cases h9 : k = 9
  · rw [if_pos h9, if_neg (by simp)] at h; simp at h
  rw [if_neg h9] at h
  by_cases h8 : k = 8
  · rw [if_pos h8] at h
    intro hb
    rw [if_pos hb] at h; simp at h
  · simpa [bottom, h8, Ty.kind] using h9
theorem headN_good : ∀ {n : Nat} {t : Ty}, Good t → Good (headN n t) := by
  intro n
  induction n with
  | zero => intro t h; exact h
  | succ n ih =>
    intro t h
    unfold headN
    split
    · exact h
    · next c r hc => exact ih (sub_good _ h c (h.kid c (by rw [hc]; simp)))

mutual
/-- How many parts: as the machine counts. -/
def sizeW : Ty → Int
  | .mk _ _ _ _ ks => sizeWs 1 ks
def sizeWs : Int → List Ty → Int
  | n, [] => n
  | n, k :: r => sizeWs (wrap64 (n + sizeW k)) r
end

def sortWord (s : Int) : Str := if s = 1 then [105, 110, 116] else if s = 2 then [98, 111, 111, 108] else if s = 3 then [116, 101, 120, 116] else []
/-- Names and texts, one behind the other. -/
def pairs : List Str → List Str → List Str
  | [], _ => []
  | _, [] => []
  | l :: ls, t :: ts => (l ++ [58] ++ t) :: pairs ls ts
def joined : List Str → Str
  | [] => []
  | [a] => a
  | a :: b :: r => a ++ [44] ++ joined (b :: r)
mutual
/-- A type's text (P12). -/
def txt : Ty → Str
  | .mk k s n ls ks => txtOf k s n ls (txts ks)
def txts : List Ty → List Str
  | [] => []
  | t :: r => txt t :: txts r
def txtOf (k s : Int) (n : Str) (ls : List Str) (ts : List Str) : Str :=
  if k = 1 then [101, 110, 100]
  else if k = 2 then [33] ++ sortWord s ++ [46] ++ ts.getD 0 []
  else if k = 3 then [63] ++ sortWord s ++ [46] ++ ts.getD 0 []
  else if k = 4 then [33, 123] ++ ts.getD 0 [] ++ [125, 46] ++ ts.getD 1 []
  else if k = 5 then [63, 123] ++ ts.getD 0 [] ++ [125, 46] ++ ts.getD 1 []
  else if k = 6 then [43, 123] ++ joined (pairs ls ts) ++ [125]
  else if k = 7 then [38, 123] ++ joined (pairs ls ts) ++ [125]
  else if k = 8 then [114, 101, 99, 32] ++ n ++ [46] ++ ts.getD 0 []
  else if k = 9 then n
  else []
end
end Go.Proofs.YtgnkncfnkjeinaaDoor
namespace Go.Proofs.YtgnkncfnkjeinaaDoor
open Go.RowKit Go.Proofs

mutual
def parts : Ty → Nat
  | .mk _ _ _ _ ks => 1 + partss ks
def partss : List Ty → Nat
  | [] => 0
  | t :: r => parts t + partss r
end
mutual
theorem chk_parts : ∀ (t : Ty) (b : List Str) (left : Int), (chk t b left).1 = 0 → (chk t b left).2 = left - parts t ∧ 0 ≤ (chk t b left).2
  | .mk k s n ls ks, b, left, h => by
    simp only [chk] at h ⊢
    by_cases h1 : left - 1 < 0
    · rw [if_pos h1] at h; simp at h
    rw [if_neg h1] at h ⊢
    by_cases h2 : shapeOk k s n ls ks.length = false
    · rw [if_pos h2] at h; simp at h
    rw [if_neg h2] at h ⊢
    have fin : ∀ b', (chkKids ks b' (left - 1)).1 = 0 → (chkKids ks b' (left - 1)).2 = left - parts (.mk k s n ls ks) ∧ 0 ≤ (chkKids ks b' (left - 1)).2 := by
      intro b' h'
      obtain ⟨e1, e2⟩ := chkKids_parts ks b' (left - 1) (by omega) h'
      refine ⟨?_, e2⟩
      rw [e1]; simp only [parts]; omega
    by_cases h9 : k = 9
    · rw [if_pos h9] at h ⊢
      by_cases hb : n ∈ b
      · rw [if_pos hb] at h ⊢; exact fin _ h
      · rw [if_neg hb] at h; simp at h
    rw [if_neg h9] at h ⊢
    by_cases h8 : k = 8
    · rw [if_pos h8] at h ⊢
      by_cases hq : (bottom (.mk k s n ls ks)).kind = 9
      · rw [if_pos hq] at h; simp at h
      · rw [if_neg hq] at h ⊢; exact fin _ h
    · rw [if_neg h8] at h ⊢; exact fin _ h
theorem chkKids_parts : ∀ (ks : List Ty) (b : List Str) (left : Int), 0 ≤ left → (chkKids ks b left).1 = 0 → (chkKids ks b left).2 = left - partss ks ∧ 0 ≤ (chkKids ks b left).2
  | [], _, left, h0, _ => by simp [chkKids, partss, h0]
  | k :: r, b, left, h0, h => by
    simp only [chkKids] at h ⊢
    by_cases h1 : (chk k b left).1 = 0
    · rw [if_neg (by simpa using h1)] at h ⊢
      obtain ⟨e1, e2⟩ := chk_parts k b left h1
      obtain ⟨e3, e4⟩ := chkKids_parts r b _ e2 h
      refine ⟨?_, e4⟩
      rw [e3, e1]; simp only [partss]; omega
    · rw [if_pos h1] at h; exact absurd h h1
end
theorem parts_ok {t : Ty} (h : tyErr t = 0) : parts t ≤ 60 := by
  obtain ⟨h1, h2⟩ := chk_parts t [] 60 h
  omega

theorem sortWord_len (s : Int) : (sortWord s).length ≤ 4 := by
  unfold sortWord; repeat' split
  all_goals simp
/-- The bytes of some texts. -/
def total : List Str → Nat
  | [] => 0
  | s :: r => s.length + total r
theorem getD_total (l : List Str) (i : Nat) : (l.getD i []).length ≤ total l := by
  induction l generalizing i with
  | nil => simp
  | cons x r ih =>
    cases i with
    | zero => simp [total]
    | succ i => have := ih i; simp only [List.getD_cons_succ, total]; omega
theorem getD_two (l : List Str) : (l.getD 0 []).length + (l.getD 1 []).length ≤ total l := by
  cases l with
  | nil => simp
  | cons x r => have := getD_total r 0; simp only [List.getD_cons_zero, List.getD_cons_succ, total]; omega
theorem joined_len : ∀ (l : List Str), (joined l).length ≤ total l + l.length
  | [] => by simp [joined]
  | [a] => by simp [joined, total]
  | a :: b :: r => by
    have := joined_len (b :: r)
    simp only [joined, total, List.length_append, List.length_cons, List.length_nil] at this ⊢
    omega
theorem pairs_total : ∀ (ls ts : List Str), (∀ l ∈ ls, l.length ≤ 8) → total (pairs ls ts) ≤ total ts + 9 * ls.length ∧ (pairs ls ts).length ≤ ls.length
  | [], _, _ => by simp [pairs, total]
  | _ :: _, [], _ => by simp [pairs, total]
  | l :: ls, t :: ts, h => by
    obtain ⟨h1, h2⟩ := pairs_total ls ts fun x hx => h x (by simp [hx])
    have := h l (by simp)
    simp only [pairs, total, List.length_append, List.length_cons, List.length_nil] at h1 h2 ⊢
    omega
theorem txtOf_len {k s : Int} {n : Str} {ls ts : List Str} (hn : n.length ≤ 8) (hl : ls.length ≤ 6) (hls : ∀ l ∈ ls, l.length ≤ 8) : (txtOf k s n ls ts).length ≤ 100 + total ts := by
  have h1 := sortWord_len s
  have h2 := getD_total ts 0
  have h3 := getD_two ts
  have h4 := joined_len (pairs ls ts)
  obtain ⟨h5, h6⟩ := pairs_total ls ts hls
  unfold txtOf
  repeat' split
  all_goals (try simp only [List.length_append, List.length_cons, List.length_nil])
  all_goals omega
mutual
theorem txt_len : ∀ t : Ty, Good t → (txt t).length ≤ 100 * parts t
  | .mk k s n ls ks, h => by
    obtain ⟨h1, h2, h3, -⟩ := h.small
    have h4 := txts_len ks h.kid
    have := txtOf_len (k := k) (s := s) (ts := txts ks) h1 h2 h3
    simp only [txt, parts, Ty.name, Ty.labels] at *
    omega
theorem txts_len : ∀ ks : List Ty, (∀ t ∈ ks, Good t) → total (txts ks) ≤ 100 * partss ks
  | [], _ => by simp [txts, total]
  | t :: r, h => by
    have h1 := txt_len t (h t (by simp))
    have h2 := txts_len r fun k hk => h k (by simp [hk])
    simp only [txts, total, partss]
    omega
end
theorem txts_length : ∀ ks : List Ty, (txts ks).length = ks.length
  | [] => rfl
  | t :: r => by simp [txts, txts_length r]
theorem txts_at : ∀ {ks : List Ty} {i : Nat} {t : Ty}, ks[i]? = some t → (txts ks)[i]? = some (txt t)
  | [], i, t, h => by simp at h
  | k :: r, 0, t, h => by simp at h; subst h; rfl
  | k :: r, i + 1, t, h => by simp only [txts, List.getElem?_cons_succ] at h ⊢; exact txts_at h
theorem parts_at : ∀ {ks : List Ty} {t : Ty}, t ∈ ks → parts t ≤ partss ks
  | [], t, h => by simp at h
  | k :: r, t, h => by
    simp only [partss]
    rcases List.mem_cons.1 h with rfl | h
    · omega
    · have := parts_at h; omega
theorem joined_snoc : ∀ (l : List Str) (a : Str), l ≠ [] → joined (l ++ [a]) = joined l ++ [44] ++ a
  | [], _, h => absurd rfl h
  | [x], a, _ => by simp [joined]
  | x :: y :: r, a, _ => by
    have := joined_snoc (y :: r) a (by simp)
    simp only [List.cons_append, joined] at this ⊢
    rw [this]
    simp
end Go.Proofs.YtgnkncfnkjeinaaDoor
namespace Go.Proofs.YtgnkncfnkjeinaaDoor
open Go.RowKit Go.Proofs

section
variable {P : Program} {ops : Array Oper} {rest : List Oper} {o : Oper} {a : Act} {Q : Exit → Act → World → Prop} {w : World}
end

/-- The cells of types that lie one behind the other. -/
inductive Cells5 (w : World) : List Value → List Ty → Prop where
  | nil : Cells5 w [] []
  | cons (t : Ty) (lv kv : Value) (xs : List Value) (ts : List Ty) (h1 : IsStrs w lv t.labels) (h2 : IsTys w kv t.kids) (h : Cells5 w xs ts) :
      Cells5 w (.int .i64 t.kind :: .int .i64 t.sort :: .string ⟨t.name.toArray⟩ :: lv :: kv :: xs) (t :: ts)
theorem Cells5.length {w : World} {xs : List Value} {ts : List Ty} (h : Cells5 w xs ts) : xs.length = ts.length * 5 := by
  induction h with
  | nil => rfl
  | cons => simp only [List.length_cons]; omega
theorem Cells5.append {w : World} {xs ys : List Value} {ts us : List Ty} (h : Cells5 w xs ts) (h' : Cells5 w ys us) : Cells5 w (xs ++ ys) (ts ++ us) := by
  induction h with
  | nil => exact h'
  | cons t lv kv xs ts h1 h2 _ ih => exact .cons t lv kv _ _ h1 h2 ih
theorem Cells5.keep {w w' : World} {xs : List Value} {ts : List Ty} (h : Cells5 w xs ts) (hb : Below w.heap.size w w') : Cells5 w' xs ts := by
  induction h with
  | nil => exact .nil
  | cons t lv kv xs ts h1 h2 _ ih => exact .cons t lv kv _ _ (h1.keep hb) (h2.keep hb) ih
theorem IsTys.one {w : World} {v : Value} {l : List Ty} (h : IsTys w v l) : v.oneCell' = true := by obtain ⟨A, cap, rfl, _⟩ := h; rfl
theorem Cells5.one {w : World} {xs : List Value} {ts : List Ty} (h : Cells5 w xs ts) : ∀ u ∈ xs, u.oneCell' = true := by
  induction h with
  | nil => simp
  | cons t lv kv xs ts h1 h2 _ ih =>
    intro u hu
    simp only [List.mem_cons] at hu
    rcases hu with rfl | rfl | rfl | rfl | rfl | hu
    · rfl
    · rfl
    · rfl
    · exact h1.one
    · exact h2.one
    · exact ih u hu
theorem Cells5.row {w : World} {b : Nat} {xs : List Value} {ts : List Ty} (h : Cells5 w xs ts) : ∀ (off : Nat), (∀ j u, xs[j]? = some u → w.cell? ⟨b, off + j, none⟩ = some u) → TyRow w b off ts := by
  induction h with
  | nil => intro off _; simp [TyRow]
  | cons t lv kv xs ts h1 h2 _ ih =>
    intro off hc
    refine ⟨(TyAt_iff _ _ _ _).2 ⟨lv, kv, hc 0 _ rfl, hc 1 _ rfl, hc 2 _ rfl, hc 3 _ rfl, hc 4 _ rfl, h1, h2⟩, ih (off + 5) fun j u hj => ?_⟩
    have := hc (j + 5) u (by simpa using hj)
    rw [show off + 5 + j = off + (j + 5) by omega]
    exact this
theorem row_cells5 {w : World} {b : Nat} : ∀ {ts : List Ty} {off : Nat}, TyRow w b off ts → ∃ xs, Cells5 w xs ts ∧ ∀ j u, xs[j]? = some u → w.cell? ⟨b, off + j, none⟩ = some u := by
  intro ts
  induction ts with
  | nil => intro off _; exact ⟨[], .nil, by simp⟩
  | cons t r ih =>
    intro off h
    obtain ⟨h1, h2⟩ := h
    obtain ⟨lv, kv, c0, c1, c2, c3, c4, h3, h4⟩ := (TyAt_iff _ _ _ _).1 h1
    obtain ⟨xs, hx, hc⟩ := ih h2
    refine ⟨_, .cons t lv kv xs r h3 h4 hx, fun j u hj => ?_⟩
    match j, hj with
    | 0, hj | 1, hj | 2, hj | 3, hj | 4, hj => simp at hj; subst hj; assumption
    | j + 5, hj =>
      have := hc j u (by simpa using hj)
      rw [show off + (j + 5) = off + 5 + j by omega]
      exact this
/-- A row of the call's own is a slice of types. -/
theorem own_tys {w : World} {base : Nat} {E : TypeId} {v : Value} {xs : List Value} {ts : List Ty} (h : w.ownsRow base E 5 v ts.length xs) (hc : Cells5 w xs ts) : IsTys w v ts := by
  have hcells := fun g => h.cells (g := g)
  rcases h.2 with ⟨rfl, h0⟩ | ⟨g, cap, cur, rfl, _, _, hn, _⟩
  · refine ⟨none, 0, by rw [h0], by omega, fun h1 => by omega⟩
  · refine ⟨_, cap, rfl, hn, fun _ => ⟨g, 0, rfl, hc.row 0 fun j u hj => ?_⟩⟩
    have := hcells g rfl j u hj
    rw [Go.WideShapes.add_plain] at this
    exact this

/-- One of the kids of a type. -/
theorem kid_at {w : World} {A : Option Addr} {n cap : Nat} {ks : List Ty} {i : Nat} {t : Ty} (h : IsTys w (.slice A n cap) ks) (hi : ks[i]? = some t) :
    n = ks.length ∧ n ≤ cap ∧ ∃ b off A1 n1 p1 A2 n2 p2, A = some ⟨b, off, none⟩ ∧ w.cell? ⟨b, off + i * 5, none⟩ = some (.int .i64 t.kind) ∧ w.cell? ⟨b, off + i * 5 + 1, none⟩ = some (.int .i64 t.sort) ∧ w.cell? ⟨b, off + i * 5 + 2, none⟩ = some (.string ⟨t.name.toArray⟩) ∧
      w.cell? ⟨b, off + i * 5 + 3, none⟩ = some (.slice A1 n1 p1) ∧ w.cell? ⟨b, off + i * 5 + 4, none⟩ = some (.slice A2 n2 p2) ∧ IsStrs w (.slice A1 n1 p1) t.labels ∧ IsTys w (.slice A2 n2 p2) t.kids := by
  obtain ⟨A', cap', e, hle, h3⟩ := h
  injection e with e1 e2 e3
  subst e1 e2 e3
  have hlt := (List.getElem?_eq_some_iff.1 hi).1
  obtain ⟨b, off, rfl, hr⟩ := h3 (by omega)
  obtain ⟨lv, kv, c0, c1, c2, c3, c4, h5, h6⟩ := (TyAt_iff _ _ _ _).1 (TyRow_at hr hi)
  have h5' := h5
  have h6' := h6
  obtain ⟨A1, p1, rfl, _⟩ := h5
  obtain ⟨A2, p2, rfl, _⟩ := h6
  exact ⟨rfl, hle, b, off, A1, _, p1, A2, _, p2, rfl, c0, c1, c2, c3, c4, h5', h6'⟩
theorem isTy_of {w : World} {t : Ty} {lv kv : Value} (h1 : IsStrs w lv t.labels) (h2 : IsTys w kv t.kids) : IsTy w (.agg #[.int .i64 t.kind, .int .i64 t.sort, .string ⟨t.name.toArray⟩, lv, kv]) t := ⟨lv, kv, rfl, h1, h2⟩
theorem rt_types : RowType Tryd.prog 23 25 5 80 := .mk' (z := .agg #[.int .i64 0, .int .i64 0, .string ⟨#[]⟩, .slice none 0 0, .slice none 0 0]) Tryd.underlying23 (by kernel_rfl) rfl (by decide)
end Go.Proofs.YtgnkncfnkjeinaaDoor
