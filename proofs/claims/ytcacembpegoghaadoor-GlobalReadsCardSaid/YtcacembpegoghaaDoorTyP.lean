/-
  The plain law of types: good types, their size and text, what is put in the place of a name, heads.
-/
import Derived.Test.YtcacembpegoghaaDoorTyC
namespace Go.Proofs.YtcacembpegoghaaDoor
open Go.RowKit Go.Proofs

/-- Every part has the shape of its kind. -/
inductive Good : Ty → Prop where
  | mk (k s : Int) (n : Str) (ls : List Str) (ks : List Ty) (h : shapeOk k s n ls ks.length = true) (hk : ∀ t ∈ ks, Good t) : Good (.mk k s n ls ks)

mutual
theorem good_of_chk : ∀ (t : Ty) (b : List Str) (left : Int), (chk t b left).1 = 0 → Good t
  | .mk k s n ls ks, b, left, h => by
    simp only [chk] at h
    by_cases h1 : left - 1 < 0
    · rw [if_pos h1] at h; simp at h
    rw [if_neg h1] at h
    by_cases h2 : shapeOk k s n ls ks.length = false
    · rw [if_pos h2] at h; simp at h
    rw [if_neg h2] at h
    refine .mk k s n ls ks (by simpa using h2) ?_
    by_cases h9 : k = 9
    · rw [if_pos h9] at h
      by_cases hb : n ∈ b
      · rw [if_pos hb] at h; exact good_kids ks _ _ h
      · rw [if_neg hb] at h; simp at h
    rw [if_neg h9] at h
    by_cases h8 : k = 8
    · rw [if_pos h8] at h
      by_cases hq : (bottom (.mk k s n ls ks)).kind = 9
      · rw [if_pos hq] at h; simp at h
      · rw [if_neg hq] at h; exact good_kids ks _ _ h
    · rw [if_neg h8] at h; exact good_kids ks _ _ h
theorem good_kids : ∀ (ks : List Ty) (b : List Str) (left : Int), (chkKids ks b left).1 = 0 → ∀ t ∈ ks, Good t
  | [], _, _, _ => by simp
  | k :: r, b, left, h => by
    simp only [chkKids] at h
    by_cases h1 : (chk k b left).1 = 0
    · rw [if_neg (by simpa using h1)] at h
      have g1 := good_of_chk k b left h1
      have g2 := good_kids r b _ h
      intro t ht
      rcases List.mem_cons.1 ht with e | ht
      · rw [e]; exact g1
      · exact g2 t ht
    · rw [if_pos h1] at h; exact absurd h h1
end

theorem Good.shape {t : Ty} (h : Good t) : shapeOk t.kind t.sort t.name t.labels t.kids.length = true := by cases h; assumption
theorem Good.kid {t : Ty} (h : Good t) : ∀ k ∈ t.kids, Good k := by cases h; assumption

/-- What a good part's kind says of it. -/
theorem okFrom_names : ∀ {l : List Str} {p : Option Str}, okFrom p l = true → ∀ s ∈ l, isName s = true := by
  intro l
  induction l with
  | nil => intro p _ s hs; simp at hs
  | cons x r ih =>
    intro p h s hs
    simp only [okFrom, Bool.and_eq_true] at h
    rcases List.mem_cons.1 hs with rfl | hs
    · exact h.1.1
    · exact ih h.2 s hs
theorem isName_len {s : Str} (h : isName s = true) : 1 ≤ s.length ∧ s.length ≤ 8 := by
  simp only [isName, small, Bool.and_eq_true, decide_eq_true_eq] at h
  exact ⟨h.1.1.2, h.1.2⟩
theorem isVar_len {s : Str} (h : isVar s = true) : 1 ≤ s.length ∧ s.length ≤ 8 := by
  simp only [isVar, Bool.and_eq_true] at h
  exact isName_len h.1
theorem labelsOk_len {l : List Str} (h : labelsOk l = true) : 1 ≤ l.length ∧ l.length ≤ 6 ∧ ∀ s ∈ l, s.length ≤ 8 := by
  simp only [labelsOk, Bool.and_eq_true, decide_eq_true_eq] at h
  exact ⟨h.1.2, h.2, fun s hs => (isName_len (okFrom_names h.1.1 s hs)).2⟩

/-- A good part, kind by kind. -/
inductive Shape : Int → Int → Str → List Str → Nat → Prop where
  | fin : Shape 1 0 [] [] 0
  | value (k s : Int) (hk : k = 2 ∨ k = 3) (h1 : 1 ≤ s) (h3 : s ≤ 3) : Shape k s [] [] 1
  | channel (k : Int) (hk : k = 4 ∨ k = 5) : Shape k 0 [] [] 2
  | choice (k : Int) (hk : k = 6 ∨ k = 7) (ls : List Str) (h : labelsOk ls = true) : Shape k 0 [] ls ls.length
  | loop (n : Str) (h : isVar n = true) : Shape 8 0 n [] 1
  | var (n : Str) (h : isVar n = true) : Shape 9 0 n [] 0

theorem shape_of {k s : Int} {n : Str} {ls : List Str} {c : Nat} (h : shapeOk k s n ls c = true) : Shape k s n ls c := by
  unfold shapeOk shapeN at h
  by_cases h1 : k = 1
  · simp only [h1, if_true, Bool.and_eq_true, decide_eq_true_eq, List.isEmpty_iff, List.length_eq_zero_iff] at h
    obtain ⟨⟨⟨rfl, rfl⟩, rfl⟩, rfl⟩ := h
    subst h1; exact .fin
  rw [if_neg h1] at h
  by_cases h2 : k = 2 ∨ k = 3
  · simp only [if_pos h2, Bool.and_eq_true, decide_eq_true_eq, List.isEmpty_iff, List.length_eq_zero_iff] at h
    obtain ⟨⟨⟨⟨ha, hb⟩, rfl⟩, rfl⟩, rfl⟩ := h
    exact .value k s h2 ha hb
  rw [if_neg h2] at h
  by_cases h4 : k = 4 ∨ k = 5
  · simp only [if_pos h4, Bool.and_eq_true, decide_eq_true_eq, List.isEmpty_iff, List.length_eq_zero_iff] at h
    obtain ⟨⟨⟨rfl, rfl⟩, rfl⟩, rfl⟩ := h
    exact .channel k h4
  rw [if_neg h4] at h
  by_cases h6 : k = 6 ∨ k = 7
  · simp only [if_pos h6, Bool.and_eq_true, decide_eq_true_eq, List.isEmpty_iff] at h
    obtain ⟨⟨⟨rfl, rfl⟩, hl⟩, rfl⟩ := h
    exact .choice k h6 ls hl
  rw [if_neg h6] at h
  by_cases h8 : k = 8
  · simp only [if_pos h8, Bool.and_eq_true, decide_eq_true_eq, List.length_eq_zero_iff] at h
    obtain ⟨⟨⟨rfl, hn⟩, rfl⟩, rfl⟩ := h
    subst h8; exact .loop n hn
  rw [if_neg h8] at h
  by_cases h9 : k = 9
  · simp only [if_pos h9, Bool.and_eq_true, decide_eq_true_eq, List.length_eq_zero_iff] at h
    obtain ⟨⟨⟨rfl, hn⟩, rfl⟩, rfl⟩ := h
    subst h9; exact .var n hn
  rw [if_neg h9] at h
  cases h

theorem Shape.small {k s : Int} {n : Str} {ls : List Str} {c : Nat} (h : Shape k s n ls c) : n.length ≤ 8 ∧ ls.length ≤ 6 ∧ (∀ l ∈ ls, l.length ≤ 8) ∧ c ≤ 6 ∧ 1 ≤ k ∧ k ≤ 9 ∧ 0 ≤ s ∧ s ≤ 3 := by
  cases h with
  | fin => simp
  | value k s hk h1 h3 => refine ⟨by simp, by simp, by simp, by omega, ?_, ?_, by omega, by omega⟩ <;> omega
  | channel k hk => refine ⟨by simp, by simp, by simp, by omega, ?_, ?_, by omega, by omega⟩ <;> omega
  | choice k hk ls h =>
    obtain ⟨h1, h2, h3⟩ := labelsOk_len h
    refine ⟨by simp, h2, h3, by omega, ?_, ?_, by omega, by omega⟩ <;> omega
  | loop n h => exact ⟨(isVar_len h).2, by simp, by simp, by omega, by omega, by omega, by omega, by omega⟩
  | var n h => exact ⟨(isVar_len h).2, by simp, by simp, by omega, by omega, by omega, by omega, by omega⟩

theorem Good.small {t : Ty} (h : Good t) : t.name.length ≤ 8 ∧ t.labels.length ≤ 6 ∧ (∀ l ∈ t.labels, l.length ≤ 8) ∧ t.kids.length ≤ 6 :=
  let h := (shape_of h.shape).small; ⟨h.1, h.2.1, h.2.2.1, h.2.2.2.1⟩

theorem Good.named {t : Ty} (h : Good t) (hk : t.kind = 8 ∨ t.kind = 9) : t.name ≠ [] := by
  have hs := shape_of h.shape
  have : isVar t.name = true := by
    cases t with
    | mk k s n ls ks =>
      simp only [Ty.kind, Ty.sort, Ty.name, Ty.labels, Ty.kids] at hs hk ⊢
      obtain ⟨c, hc⟩ : ∃ c, ks.length = c := ⟨_, rfl⟩
      rw [hc] at hs
      clear hc h
      cases hs with
      | fin => omega
      | value _ _ hk' => omega
      | channel _ hk' => omega
      | choice _ hk' => omega
      | loop _ h => exact h
      | var _ h => exact h
  intro h0
  have := (isVar_len this).1
  rw [h0] at this
  simp at this

mutual
/-- What is put in the place of a name. -/
def sub (x : Str) (u : Ty) : Ty → Ty
  | .mk k s n ls ks => if k = 9 ∧ n = x then u else if k = 8 ∧ n = x then .mk k s n ls ks else .mk k s n ls (subs x u ks)
def subs (x : Str) (u : Ty) : List Ty → List Ty
  | [] => []
  | t :: r => sub x u t :: subs x u r
end
theorem subs_map (x : Str) (u : Ty) : ∀ ks : List Ty, subs x u ks = ks.map (sub x u)
  | [] => rfl
  | t :: r => by simp [subs, subs_map x u r]

mutual
theorem sub_good (x : Str) {u : Ty} (hu : Good u) : ∀ t : Ty, Good t → Good (sub x u t)
  | .mk k s n ls ks, h => by
    simp only [sub]
    by_cases h1 : k = 9 ∧ n = x
    · rw [if_pos h1]; exact hu
    rw [if_neg h1]
    by_cases h2 : k = 8 ∧ n = x
    · rw [if_pos h2]; exact h
    rw [if_neg h2]
    refine .mk _ _ _ _ _ ?_ (subs_good x hu ks h.kid)
    have := h.shape
    rw [subs_map, List.length_map]
    exact this
theorem subs_good (x : Str) {u : Ty} (hu : Good u) : ∀ ks : List Ty, (∀ t ∈ ks, Good t) → ∀ t ∈ subs x u ks, Good t
  | [], _ => by simp [subs]
  | t :: r, h => by
    intro c hc
    simp only [subs] at hc
    rcases List.mem_cons.1 hc with rfl | hc
    · exact sub_good x hu t (h t (by simp))
    · exact subs_good x hu r (fun k hk => h k (by simp [hk])) c hc
end
mutual
/-- No good type has the empty name. -/
theorem sub_none (u : Ty) : ∀ t : Ty, Good t → sub [] u t = t
  | .mk k s n ls ks, h => by
    have hn := h.named
    simp only [Ty.kind, Ty.name] at hn
    simp only [sub]
    rw [if_neg (fun hc => hn (Or.inr hc.1) hc.2), if_neg (fun hc => hn (Or.inl hc.1) hc.2), subs_none u ks h.kid]
theorem subs_none (u : Ty) : ∀ ks : List Ty, (∀ t ∈ ks, Good t) → subs [] u ks = ks
  | [], _ => rfl
  | t :: r, h => by
    simp only [subs]
    rw [sub_none u t (h t (by simp)), subs_none u r fun k hk => h k (by simp [hk])]
end

/-- A chain of Recs that does not end in a Var. -/
def Chain : Nat → Ty → Prop
  | 0, t => t.kind ≠ 8 ∧ t.kind ≠ 9
  | n + 1, t => t.kind = 8 ∧ ∃ c, t.kids = [c] ∧ Chain n c
theorem chain_sub {x : Str} {u : Ty} : ∀ {n : Nat} {t : Ty}, Chain n t → Chain n (sub x u t) := by
  intro n
  induction n with
  | zero =>
    rintro ⟨k, s, nm, ls, ks⟩ ⟨h1, h2⟩
    simp only [Ty.kind] at h1 h2
    simp only [sub]
    rw [if_neg (fun h => h2 h.1), if_neg (fun h => h1 h.1)]
    exact ⟨h1, h2⟩
  | succ n ih =>
    rintro ⟨k, s, nm, ls, ks⟩ ⟨h1, c, h2, h3⟩
    simp only [Ty.kind, Ty.kids] at h1 h2
    subst h1 h2
    simp only [sub]
    rw [if_neg (fun h => by omega)]
    by_cases h : nm = x
    · rw [if_pos ⟨trivial, h⟩]; exact ⟨rfl, c, rfl, h3⟩
    · rw [if_neg fun hc => h hc.2]; exact ⟨rfl, _, rfl, ih h3⟩
theorem chain_of : ∀ (t : Ty), Good t → (bottom t).kind ≠ 9 → ∃ n, Chain n t
  | .mk k s n ls ks, h, hb => by
    by_cases h8 : k = 8
    · subst h8
      have hs := shape_of h.shape
      simp only [Ty.kind, Ty.sort, Ty.name, Ty.labels, Ty.kids] at hs
      have hl : ks.length = 1 := by
        have : ∀ {k s : Int} {n : Str} {ls : List Str} {c : Nat}, Shape k s n ls c → k = 8 → c = 1 := by
          intro k s n ls c h hk
          cases h <;> omega
        exact this hs rfl
      match ks, hl, h, hb with
      | [c], _, h, hb =>
        simp only [bottom, bottomF, List.length_singleton, and_self, if_true] at hb
        obtain ⟨m, hm⟩ := chain_of c (h.kid c (by simp [Ty.kids])) hb
        exact ⟨m + 1, rfl, c, rfl, hm⟩
    · refine ⟨0, h8, ?_⟩
      simpa [bottom, h8, Ty.kind] using hb
/-- Unfolded. -/
def headN : Nat → Ty → Ty
  | 0, t => t
  | n + 1, t => match t.kids with | [] => t | c :: _ => headN n (sub t.name t c)
theorem chain_ok {t : Ty} (h : tyErr t = 0) : ∃ n, Chain n t := by
  have hg := good_of_chk t [] 60 h
  refine chain_of t hg ?_
  unfold tyErr at h
  obtain ⟨k, s, n, ls, ks⟩ := t
  simp only [chk] at h
  rw [if_neg (by omega), if_neg (by rw [show shapeOk k s n ls ks.length = true from hg.shape]; simp)] at h
  by_cases h9 : k = 9
  · rw [if_pos h9, if_neg (by simp)] at h; simp at h
  rw [if_neg h9] at h
  by_cases h8 : k = 8
  · rw [if_pos h8] at h
    intro hb
    rw [if_pos hb] at h; simp at h
  · simpa [bottom, h8, Ty.kind] using h9
theorem headN_good : ∀ {n : Nat} {t : Ty}, Good t → Good (headN n t) := by
  intro n
  induction n with
  | zero => intro t h; exact h
  | succ n ih =>
    intro t h
    unfold headN
    split
    · exact h
    · next c r hc => exact ih (sub_good _ h c (h.kid c (by rw [hc]; simp)))

mutual
/-- How many parts: as the machine counts. -/
def sizeW : Ty → Int
  | .mk _ _ _ _ ks => sizeWs 1 ks
def sizeWs : Int → List Ty → Int
  | n, [] => n
  | n, k :: r => sizeWs (wrap64 (n + sizeW k)) r
end

def sortWord (s : Int) : Str := if s = 1 then [105, 110, 116] else if s = 2 then [98, 111, 111, 108] else if s = 3 then [116, 101, 120, 116] else []
/-- Names and texts, one behind the other. -/
def pairs : List Str → List Str → List Str
  | [], _ => []
  | _, [] => []
  | l :: ls, t :: ts => (l ++ [58] ++ t) :: pairs ls ts
def joined : List Str → Str
  | [] => []
  | [a] => a
  | a :: b :: r => a ++ [44] ++ joined (b :: r)
mutual
/-- A type's text (P12). -/
def txt : Ty → Str
  | .mk k s n ls ks => txtOf k s n ls (txts ks)
def txts : List Ty → List Str
  | [] => []
  | t :: r => txt t :: txts r
def txtOf (k s : Int) (n : Str) (ls : List Str) (ts : List Str) : Str :=
  if k = 1 then [101, 110, 100]
  else if k = 2 then [33] ++ sortWord s ++ [46] ++ ts.getD 0 []
  else if k = 3 then [63] ++ sortWord s ++ [46] ++ ts.getD 0 []
  else if k = 4 then [33, 123] ++ ts.getD 0 [] ++ [125, 46] ++ ts.getD 1 []
  else if k = 5 then [63, 123] ++ ts.getD 0 [] ++ [125, 46] ++ ts.getD 1 []
  else if k = 6 then [43, 123] ++ joined (pairs ls ts) ++ [125]
  else if k = 7 then [38, 123] ++ joined (pairs ls ts) ++ [125]
  else if k = 8 then [114, 101, 99, 32] ++ n ++ [46] ++ ts.getD 0 []
  else if k = 9 then n
  else []
end
end Go.Proofs.YtcacembpegoghaaDoor
