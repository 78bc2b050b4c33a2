/-
  What is wrong with a conversation, in plain words: the program's walk with a budget (gchk), the reference's stack (gchkList): they gagree.
  The plain law of conversations: good ones, their text, their roles, renaming.
  Regions that draw their order, hold calls, and end in a store that waits for all the rest: what a load yields is told once; the condition S on the world is asked for no longer than till the tail begins.
  The reference's list of what is still to be looked at: types, each with the names around it.
  The reference's list of what is still to be looked at: conversations, each with the names around it.
-/
import Derived.Test.YtgnkncfnkjeinaaDoorGlS
import Derived.Test.YtgnkncfnkjeinaaDoorM5
import Derived.Test.YtgnkncfnkjeinaaDoorM2
import Derived.Deep.RegionHeld3
import Derived.Deep.DrawnRows
import Derived.Laws.AppendOwnNone
import Derived.Test.YtgnkncfnkjeinaaDoorM6
namespace Go.Proofs.YtgnkncfnkjeinaaDoor
open Go.RowKit Go.Proofs

mutual
/-- Where a chain of Recs ends. -/
def gbottom : Gl → Gl
  | .mk k f o s n ls ks => if k = 8 ∧ ks.length = 1 then gbottomF ks else .mk k f o s n ls ks
def gbottomF : List Gl → Gl
  | [] => .mk 0 [] [] 0 [] [] []
  | t :: _ => gbottom t
end
mutual
/-- The program's: the error, and what is left. -/
def gchk : Gl → List Str → Int → Int × Int
  | .mk k f o s n ls ks, bound, left =>
    if left - 1 < 0 then (2, left - 1)
    else if gShape k f o s n ls ks.length = false then (1, left - 1)
    else if k = 9 then (if n ∈ bound then gchkKids ks bound (left - 1) else (4, left - 1))
    else if k = 8 then (if (gbottom (.mk k f o s n ls ks)).kind = 9 then (7, left - 1) else gchkKids ks (bound ++ [n]) (left - 1))
    else gchkKids ks bound (left - 1)
def gchkKids : List Gl → List Str → Int → Int × Int
  | [], _, left => (0, left)
  | k :: r, bound, left => if (gchk k bound left).1 ≠ 0 then gchk k bound left else gchkKids r bound (gchk k bound left).2
end
/-- The reference's: m gparts may still come. -/
def gchkList : Nat → List (Gl × List Str) → Int
  | _, [] => 0
  | 0, _ :: _ => 2
  | m + 1, (t, b) :: rest =>
    if gShape t.kind t.frm t.rcv t.sort t.name t.labels t.kids.length = false then 1
    else if t.kind = 9 ∧ ¬ t.name ∈ b then 4
    else if t.kind = 8 then (if (gbottom t).kind = 9 then 7 else gchkList m ((t.kids.map fun c => (c, b ++ [t.name])) ++ rest))
    else gchkList m ((t.kids.map fun c => (c, b)) ++ rest)
/-- What is wrong with a conversation (P11). -/
def glErr (t : Gl) : Int := (gchk t [] 60).1

def GAgree (m : Nat) (x : Int × Int) (stack rest : List (Gl × List Str)) : Prop :=
  (x.1 ≠ 0 → gchkList m stack = x.1) ∧ (x.1 = 0 → ∃ j : Nat, x.2 = j ∧ gchkList m stack = gchkList j rest)

mutual
theorem gagree : ∀ (t : Gl) (b : List Str) (rest : List (Gl × List Str)) (m : Nat), GAgree m (gchk t b m) ((t, b) :: rest) rest
  | .mk k f o s n ls ks, b, rest, m => by
    cases m with
    | zero => simp [GAgree, gchk, gchkList]
    | succ m =>
      have hm : ((m + 1 : Nat) : Int) - 1 = (m : Int) := by omega
      have h0 : ¬ (m : Int) < 0 := by omega
      have hc : gchkList (m + 1) ((.mk k f o s n ls ks, b) :: rest) = (if gShape k f o s n ls ks.length = false then 1 else if k = 9 ∧ ¬ n ∈ b then 4 else if k = 8 then (if (gbottom (.mk k f o s n ls ks)).kind = 9 then 7 else gchkList m ((ks.map fun c => (c, b ++ [n])) ++ rest)) else gchkList m ((ks.map fun c => (c, b)) ++ rest)) := rfl
      have h4 := gagreeKids ks b rest m
      have h5 := gagreeKids ks (b ++ [n]) rest m
      unfold GAgree at h4 h5 ⊢
      rw [hc]
      simp only [gchk]
      rw [hm, if_neg h0]
      by_cases h1 : gShape k f o s n ls ks.length = false
      · rw [if_pos h1, if_pos h1]; simp
      rw [if_neg h1, if_neg h1]
      by_cases h9 : k = 9
      · by_cases hb : n ∈ b
        · rw [if_pos h9, if_pos hb, if_neg (fun h : k = 9 ∧ ¬ n ∈ b => h.2 hb), if_neg (by omega)]; exact h4
        · rw [if_pos h9, if_neg hb, if_pos ⟨h9, hb⟩]; simp
      · rw [if_neg h9, if_neg (fun h : k = 9 ∧ ¬ n ∈ b => h9 h.1)]
        by_cases h8 : k = 8
        · rw [if_pos h8, if_pos h8]
          by_cases hq : (gbottom (.mk k f o s n ls ks)).kind = 9
          · rw [if_pos hq, if_pos hq]; simp
          · rw [if_neg hq, if_neg hq]; exact h5
        · rw [if_neg h8, if_neg h8]; exact h4
theorem gagreeKids : ∀ (ks : List Gl) (b : List Str) (rest : List (Gl × List Str)) (m : Nat), GAgree m (gchkKids ks b m) ((ks.map fun c => (c, b)) ++ rest) rest
  | [], b, rest, m => ⟨fun h => absurd rfl h, fun _ => ⟨m, rfl, rfl⟩⟩
  | k :: r, b, rest, m => by
    have h1 := gagree k b ((r.map fun c => (c, b)) ++ rest) m
    simp only [gchkKids, List.map_cons, List.cons_append]
    by_cases he : (gchk k b m).1 = 0
    · obtain ⟨j, hj, hl⟩ := h1.2 he
      have h2 := gagreeKids r b rest j
      simp only [he, ne_eq, not_true, if_false, hj]
      refine ⟨fun h => by rw [hl]; exact h2.1 h, fun h => ?_⟩
      obtain ⟨i, hi, hl2⟩ := h2.2 h
      exact ⟨i, hi, by rw [hl, hl2]⟩
    · simp only [if_pos he]
      exact ⟨fun _ => h1.1 he, fun h => absurd h he⟩
end
theorem glErr_list (t : Gl) : gchkList 60 [(t, [])] = glErr t := by
  have := gagree t [] [] 60
  unfold glErr
  by_cases h : (gchk t [] (60 : Nat)).1 = 0
  · obtain ⟨j, -, hl⟩ := this.2 h
    rw [hl]
    cases j <;> exact h.symm
  · exact this.1 h
mutual
def gparts : Gl → Nat
  | .mk _ _ _ _ _ _ ks => 1 + gpartss ks
def gpartss : List Gl → Nat
  | [] => 0
  | t :: r => gparts t + gpartss r
end
mutual
theorem gchk_parts : ∀ (t : Gl) (b : List Str) (left : Int), (gchk t b left).1 = 0 → (gchk t b left).2 = left - gparts t ∧ 0 ≤ (gchk t b left).2
  | .mk k f o s n ls ks, b, left, h => by
    simp only [gchk] at h ⊢
    by_cases h1 : left - 1 < 0
    · rw [if_pos h1] at h; simp at h
    rw [if_neg h1] at h ⊢
    by_cases h2 : gShape k f o s n ls ks.length = false
    · rw [if_pos h2] at h; simp at h
    rw [if_neg h2] at h ⊢
    have fin : ∀ b', (gchkKids ks b' (left - 1)).1 = 0 → (gchkKids ks b' (left - 1)).2 = left - gparts (.mk k f o s n ls ks) ∧ 0 ≤ (gchkKids ks b' (left - 1)).2 := by
      intro b' h'
      obtain ⟨e1, e2⟩ := gchkKids_parts ks b' (left - 1) (by omega) h'
      refine ⟨?_, e2⟩
      rw [e1]; simp only [gparts]; omega
    by_cases h9 : k = 9
    · rw [if_pos h9] at h ⊢
      by_cases hb : n ∈ b
      · rw [if_pos hb] at h ⊢; exact fin _ h
      · rw [if_neg hb] at h; simp at h
    rw [if_neg h9] at h ⊢
    by_cases h8 : k = 8
    · rw [if_pos h8] at h ⊢
      by_cases hq : (gbottom (.mk k f o s n ls ks)).kind = 9
      · rw [if_pos hq] at h; simp at h
      · rw [if_neg hq] at h ⊢; exact fin _ h
    · rw [if_neg h8] at h ⊢; exact fin _ h
theorem gchkKids_parts : ∀ (ks : List Gl) (b : List Str) (left : Int), 0 ≤ left → (gchkKids ks b left).1 = 0 → (gchkKids ks b left).2 = left - gpartss ks ∧ 0 ≤ (gchkKids ks b left).2
  | [], _, left, h0, _ => by simp [gchkKids, gpartss, h0]
  | k :: r, b, left, h0, h => by
    simp only [gchkKids] at h ⊢
    by_cases h1 : (gchk k b left).1 = 0
    · rw [if_neg (by simpa using h1)] at h ⊢
      obtain ⟨e1, e2⟩ := gchk_parts k b left h1
      obtain ⟨e3, e4⟩ := gchkKids_parts r b _ e2 h
      refine ⟨?_, e4⟩
      rw [e3, e1]; simp only [gpartss]; omega
    · rw [if_pos h1] at h; exact absurd h h1
end
theorem gparts_ok {t : Gl} (h : glErr t = 0) : gparts t ≤ 60 := by
  obtain ⟨h1, h2⟩ := gchk_parts t [] 60 h
  omega

theorem gparts_at : ∀ {ks : List Gl} {t : Gl}, t ∈ ks → gparts t ≤ gpartss ks
  | [], t, h => by simp at h
  | k :: r, t, h => by
    simp only [gpartss]
    rcases List.mem_cons.1 h with rfl | h
    · omega
    · have := gparts_at h; omega
end Go.Proofs.YtgnkncfnkjeinaaDoor
namespace Go.Proofs.YtgnkncfnkjeinaaDoor
open Go.RowKit Go.Proofs

/-- Every part has the shape of its kind. -/
inductive GGood : Gl → Prop where
  | mk (k : Int) (f o : Str) (s : Int) (n : Str) (ls : List Str) (ks : List Gl) (h : gShape k f o s n ls ks.length = true) (hk : ∀ t ∈ ks, GGood t) : GGood (.mk k f o s n ls ks)

mutual
theorem ggood_of_gchk : ∀ (t : Gl) (b : List Str) (left : Int), (gchk t b left).1 = 0 → GGood t
  | .mk k f o s n ls ks, b, left, h => by
    simp only [gchk] at h
    by_cases h1 : left - 1 < 0
    · rw [if_pos h1] at h; simp at h
    rw [if_neg h1] at h
    by_cases h2 : gShape k f o s n ls ks.length = false
    · rw [if_pos h2] at h; simp at h
    rw [if_neg h2] at h
    refine .mk k f o s n ls ks (by simpa using h2) ?_
    by_cases h9 : k = 9
    · rw [if_pos h9] at h
      by_cases hb : n ∈ b
      · rw [if_pos hb] at h; exact ggood_kids ks _ _ h
      · rw [if_neg hb] at h; simp at h
    rw [if_neg h9] at h
    by_cases h8 : k = 8
    · rw [if_pos h8] at h
      by_cases hq : (gbottom (.mk k f o s n ls ks)).kind = 9
      · rw [if_pos hq] at h; simp at h
      · rw [if_neg hq] at h; exact ggood_kids ks _ _ h
    · rw [if_neg h8] at h; exact ggood_kids ks _ _ h
theorem ggood_kids : ∀ (ks : List Gl) (b : List Str) (left : Int), (gchkKids ks b left).1 = 0 → ∀ t ∈ ks, GGood t
  | [], _, _, _ => by simp
  | k :: r, b, left, h => by
    simp only [gchkKids] at h
    by_cases h1 : (gchk k b left).1 = 0
    · rw [if_neg (by simpa using h1)] at h
      have g1 := ggood_of_gchk k b left h1
      have g2 := ggood_kids r b _ h
      intro t ht
      rcases List.mem_cons.1 ht with e | ht
      · rw [e]; exact g1
      · exact g2 t ht
    · rw [if_pos h1] at h; exact absurd h h1
end

theorem GGood.shape {t : Gl} (h : GGood t) : gShape t.kind t.frm t.rcv t.sort t.name t.labels t.kids.length = true := by cases h; assumption
theorem GGood.kid {t : Gl} (h : GGood t) : ∀ k ∈ t.kids, GGood k := by cases h; assumption


/-- A good part, kind by kind. -/
inductive GSh : Int → Str → Str → Int → Str → List Str → Nat → Prop where
  | fin : GSh 1 [] [] 0 [] [] 0
  | send (f o : Str) (s : Int) (hf : isRole f = true) (ho : isRole o = true) (hne : f ≠ o) (h1 : 1 ≤ s) (h3 : s ≤ 3) : GSh 2 f o s [] [] 1
  | pick (f o : Str) (hf : isRole f = true) (ho : isRole o = true) (hne : f ≠ o) (ls : List Str) (h : labelsOk ls = true) : GSh 6 f o 0 [] ls ls.length
  | loop (n : Str) (h : isVar n = true) : GSh 8 [] [] 0 n [] 1
  | var (n : Str) (h : isVar n = true) : GSh 9 [] [] 0 n [] 0
theorem gsh_of {k : Int} {f o : Str} {s : Int} {n : Str} {ls : List Str} {c : Nat} (h : gShape k f o s n ls c = true) : GSh k f o s n ls c := by
  unfold gShape at h
  simp only [Bool.and_eq_true] at h
  obtain ⟨ht, hs⟩ := h
  have hsh := shape_of hs
  cases hsh with
  | fin =>
    simp [talkOk, noneOk] at ht
    obtain ⟨rfl, rfl⟩ := ht
    exact .fin
  | value k s hk h1 h3 =>
    rcases hk with rfl | rfl
    · simp [talkOk, pairOk] at ht
      exact .send f o s ht.1.1 ht.1.2 ht.2 h1 h3
    · simp [talkOk] at ht
  | channel k hk => rcases hk with rfl | rfl <;> simp [talkOk] at ht
  | choice k hk ls h =>
    rcases hk with rfl | rfl
    · simp [talkOk, pairOk] at ht
      exact .pick f o ht.1.1 ht.1.2 ht.2 ls h
    · simp [talkOk] at ht
  | loop n h =>
    simp [talkOk, noneOk] at ht
    obtain ⟨rfl, rfl⟩ := ht
    exact .loop n h
  | var n h =>
    simp [talkOk, noneOk] at ht
    obtain ⟨rfl, rfl⟩ := ht
    exact .var n h
theorem GGood.gsh {t : Gl} (h : GGood t) : GSh t.kind t.frm t.rcv t.sort t.name t.labels t.kids.length := gsh_of h.shape
theorem GSh.small {k : Int} {f o : Str} {s : Int} {n : Str} {ls : List Str} {c : Nat} (h : GSh k f o s n ls c) : f.length ≤ 1 ∧ o.length ≤ 1 ∧ n.length ≤ 8 ∧ ls.length ≤ 6 ∧ (∀ l ∈ ls, l.length ≤ 8) ∧ c ≤ 6 := by
  cases h with
  | fin => simp
  | send f o s hf ho => have := isRole_len hf; have := isRole_len ho; refine ⟨by omega, by omega, by simp, by simp, by simp, by omega⟩
  | pick f o hf ho hne ls h =>
    have := isRole_len hf; have := isRole_len ho
    obtain ⟨h1, h2, h3⟩ := labelsOk_len h
    exact ⟨by omega, by omega, by simp, h2, h3, h2⟩
  | loop n h => exact ⟨by simp, by simp, (isVar_len h).2, by simp, by simp, by omega⟩
  | var n h => exact ⟨by simp, by simp, (isVar_len h).2, by simp, by simp, by omega⟩

mutual
/-- A conversation's text (P35). -/
def gtxt : Gl → Str
  | .mk k f o s n ls ks => gtxtOf k f o s n ls (gtxts ks)
def gtxts : List Gl → List Str
  | [] => []
  | t :: r => gtxt t :: gtxts r
def gtxtOf (k : Int) (f o : Str) (s : Int) (n : Str) (ls : List Str) (ts : List Str) : Str :=
  if k = 1 then [101, 110, 100]
  else if k = 9 then n
  else if k = 8 then [114, 101, 99, 32] ++ n ++ [46] ++ ts.getD 0 []
  else if k = 2 then f ++ [62] ++ o ++ [58] ++ sortWord s ++ [46] ++ ts.getD 0 []
  else f ++ [62] ++ o ++ [123] ++ joined (pairs ls ts) ++ [125]
end
theorem gtxtOf_len {k : Int} {f o : Str} {s : Int} {n : Str} {ls ts : List Str} (hf : f.length ≤ 1) (ho : o.length ≤ 1) (hn : n.length ≤ 8) (hl : ls.length ≤ 6) (hls : ∀ l ∈ ls, l.length ≤ 8) : (gtxtOf k f o s n ls ts).length ≤ 100 + total ts := by
  have h1 := sortWord_len s
  have h2 := getD_total ts 0
  have h4 := joined_len (pairs ls ts)
  obtain ⟨h5, h6⟩ := pairs_total ls ts hls
  unfold gtxtOf
  repeat' split
  all_goals (try simp only [List.length_append, List.length_cons, List.length_nil])
  all_goals omega
mutual
theorem gtxt_len : ∀ t : Gl, GGood t → (gtxt t).length ≤ 100 * gparts t
  | .mk k f o s n ls ks, h => by
    obtain ⟨h1, h2, h3, h4, h5, -⟩ := h.gsh.small
    have h6 := gtxts_len ks h.kid
    have := gtxtOf_len (k := k) (s := s) (ts := gtxts ks) h1 h2 h3 h4 h5
    simp only [gtxt, gparts, Gl.frm, Gl.rcv, Gl.name, Gl.labels] at *
    omega
theorem gtxts_len : ∀ ks : List Gl, (∀ t ∈ ks, GGood t) → total (gtxts ks) ≤ 100 * gpartss ks
  | [], _ => by simp [gtxts, total]
  | t :: r, h => by
    have h1 := gtxt_len t (h t (by simp))
    have h2 := gtxts_len r fun k hk => h k (by simp [hk])
    simp only [gtxts, total, gpartss]
    omega
end
theorem gtxts_length : ∀ ks : List Gl, (gtxts ks).length = ks.length
  | [] => rfl
  | t :: r => by simp [gtxts, gtxts_length r]
theorem gtxts_at : ∀ {ks : List Gl} {i : Nat} {t : Gl}, ks[i]? = some t → (gtxts ks)[i]? = some (gtxt t)
  | [], i, t, h => by simp at h
  | k :: r, 0, t, h => by simp at h; subst h; rfl
  | k :: r, i + 1, t, h => by simp only [gtxts, List.getElem?_cons_succ] at h ⊢; exact gtxts_at h
theorem gtxts_mem : ∀ {ks : List Gl} {x : Str}, x ∈ gtxts ks → ∃ c ∈ ks, gtxt c = x
  | [], x, h => by simp [gtxts] at h
  | k :: r, x, h => by
    simp only [gtxts] at h
    rcases List.mem_cons.1 h with rfl | h
    · exact ⟨k, by simp, rfl⟩
    · obtain ⟨c, hc, e⟩ := gtxts_mem h
      exact ⟨c, by simp [hc], e⟩

mutual
/-- The roles, as the program meets them. -/
def grl : Gl → List Str
  | .mk _ f o _ _ _ ks => (if f = [] then [] else [f, o]) ++ grls ks
def grls : List Gl → List Str
  | [] => []
  | t :: r => grl t ++ grls r
end
mutual
/-- Does it have a part in it (the reference)? -/
def gspk (r : Str) : Gl → Bool
  | .mk _ f o _ _ _ ks => f == r || o == r || gspks r ks
def gspks (r : Str) : List Gl → Bool
  | [] => false
  | t :: s => gspk r t || gspks r s
end
theorem GSh.pair {k : Int} {f o : Str} {s : Int} {n : Str} {ls : List Str} {c : Nat} (h : GSh k f o s n ls c) : (f = [] ∧ o = []) ∨ (isRole f = true ∧ isRole o = true) := by
  cases h with
  | send f o s hf ho => exact .inr ⟨hf, ho⟩
  | pick f o hf ho => exact .inr ⟨hf, ho⟩
  | fin => exact .inl ⟨rfl, rfl⟩
  | loop => exact .inl ⟨rfl, rfl⟩
  | var => exact .inl ⟨rfl, rfl⟩
theorem isRole_ne {s : Str} (h : isRole s = true) : s ≠ [] := by rintro rfl; have := isRole_len h; simp at this
mutual
theorem grl_roles : ∀ t : Gl, GGood t → ∀ r ∈ grl t, isRole r = true
  | .mk k f o s n ls ks, h, r, hr => by
    have hp := h.gsh.pair
    simp only [Gl.frm, Gl.rcv] at hp
    simp only [grl, List.mem_append] at hr
    rcases hr with hr | hr
    · rcases hp with ⟨rfl, rfl⟩ | ⟨hf, ho⟩
      · simp at hr
      · rw [if_neg (isRole_ne hf)] at hr
        simp at hr
        rcases hr with rfl | rfl
        · exact hf
        · exact ho
    · exact grls_roles ks h.kid r hr
theorem grls_roles : ∀ ks : List Gl, (∀ t ∈ ks, GGood t) → ∀ r ∈ grls ks, isRole r = true
  | [], _, r, hr => by simp [grls] at hr
  | t :: s, h, r, hr => by
    simp only [grls, List.mem_append] at hr
    rcases hr with hr | hr
    · exact grl_roles t (h t (by simp)) r hr
    · exact grls_roles s (fun k hk => h k (by simp [hk])) r hr
end
mutual
theorem gspk_iff (r : Str) (hr : r ≠ []) : ∀ t : Gl, GGood t → (gspk r t = true ↔ r ∈ grl t)
  | .mk k f o s n ls ks, h => by
    have hp := h.gsh.pair
    simp only [Gl.frm, Gl.rcv] at hp
    have hk := gspks_iff r hr ks h.kid
    simp only [gspk, grl, List.mem_append, Bool.or_eq_true, beq_iff_eq, hk]
    rcases hp with ⟨rfl, rfl⟩ | ⟨hf, ho⟩
    · simp [hr.symm]
    · rw [if_neg (isRole_ne hf)]
      simp only [List.mem_cons, List.not_mem_nil, or_false, eq_comm]
theorem gspks_iff (r : Str) (hr : r ≠ []) : ∀ ks : List Gl, (∀ t ∈ ks, GGood t) → (gspks r ks = true ↔ r ∈ grls ks)
  | [], _ => by simp [gspks, grls]
  | t :: s, h => by
    simp only [gspks, grls, List.mem_append, Bool.or_eq_true, gspk_iff r hr t (h t (by simp)), gspks_iff r hr s fun k hk => h k (by simp [hk])]
end
mutual
theorem grl_len : ∀ t : Gl, (grl t).length ≤ 2 * gparts t
  | .mk k f o s n ls ks => by
    have := grls_len ks
    simp only [grl, gparts, List.length_append]
    split
    · simp; omega
    · simp; omega
theorem grls_len : ∀ ks : List Gl, (grls ks).length ≤ 2 * gpartss ks
  | [] => by simp [grls]
  | t :: s => by
    have h1 := grl_len t
    have h2 := grls_len s
    simp only [grls, gpartss, List.length_append]; omega
end
/-- The roles' letters, rising. -/
def letters : List Str := [[97], [98], [99], [100], [101], [102], [103], [104]]
def grolesOf (t : Gl) : List Str := letters.filter fun r => gspk r t

/-- What stands in a role's place: the program. -/
def gname (F T : List Str) (s : Str) : Str := match F.findIdx? (· == s) with
  | some i => T.getD i []
  | none => s
mutual
def gren (F T : List Str) : Gl → Gl
  | .mk k f o s n ls ks => .mk k (gname F T f) (gname F T o) s n ls (grens F T ks)
def grens (F T : List Str) : List Gl → List Gl
  | [] => []
  | t :: r => gren F T t :: grens F T r
end
theorem grens_map (F T : List Str) : ∀ ks : List Gl, grens F T ks = ks.map (gren F T)
  | [] => rfl
  | t :: r => by simp [grens, grens_map F T r]
end Go.Proofs.YtgnkncfnkjeinaaDoor
namespace Go.Proofs.YtgnkncfnkjeinaaDoor
open Go.RowKit Go.Proofs

section
variable {P : Program} {ops : Array Oper} {Q : Exit → Act → World → Prop} {md : Region.Mode} {S : World → Prop} {n : Nat}

/-- Whichever operation comes up: behind it S holds if it is one of the first n. -/
def wpT (P : Program) (md : Region.Mode) (ops : Array Oper) (Q : Exit → Act → World → Prop) (S : World → Prop) (n : Nat) : Nat → Array Bool → Act → World → Prop
  | 0, L, a, w => Region.ready md ops L = [] ∧ Q .normal a w
  | g + 1, L, a, w => (Region.ready md ops L = [] → Q .normal a w) ∧ ∀ i ∈ Region.ready md ops L, wpOp P ops Q i (fun a' w' => (i < n → S w') ∧ wpT P md ops Q S n g (L.setIfInBounds i true) a' w') a w

theorem wpAny_of_T : ∀ (g : Nat) (L : Array Bool) (a : Act) (w : World), wpT P md ops Q S n g L a w → wpAny P md ops Q g L a w
  | 0, _, _, _, h => h
  | g + 1, _, _, _, h => ⟨h.1, fun i hi => wpOp_mono (fun a' w' h' => wpAny_of_T g _ a' w' h'.2) (h.2 i hi)⟩

/-- Every operation of the tail waits for number i itself. -/
def tailWaits (md : Region.Mode) (ops : Array Oper) (n i : Nat) : Bool :=
  (List.range ops.size).all fun j => decide (j < n) || (match ops[j]? with | some o => o.after.any fun e => Region.binds md e && e.on == i | none => true)
theorem tailWaits_lt {i j : Nat} {L : Array Bool} (h : tailWaits md ops n i = true) (hi : L.getD i true = false) (hj : j ∈ Region.ready md ops L) : j < n := by
  obtain ⟨hu, o, ho, hall⟩ := mem_ready.1 hj
  have hjs : j < ops.size := (Array.getElem?_eq_some_iff.1 ho).1
  have h1 := List.all_eq_true.1 h j (List.mem_range.2 hjs)
  simp only [ho, Bool.or_eq_true, decide_eq_true_eq] at h1
  rcases h1 with h1 | h1
  · exact h1
  · obtain ⟨k, hk, he⟩ := Array.any_eq_true.1 h1
    simp only [Bool.and_eq_true, beq_iff_eq] at he
    have h2 := hall _ (Array.getElem_mem hk) he.1
    rw [he.2] at h2
    rcases Nat.lt_or_ge i L.size with h' | h'
    · simp only [Array.getD, h', dite_true] at hi h2
      exact absurd (hi.symm.trans h2) (by simp)
    · simp [Array.getD, Nat.not_lt.2 h'] at hi

theorem wpT_first {i : Nat} {oi : Oper} {v : Value} (hi : ops[i]? = some oi) (hsel : ∀ (j : Nat) (o : Oper) cs b, ops[j]? = some o → o.op ≠ .select cs b) (htail : tailWaits md ops n i = true)
    (hQ : ∀ c a w, Q (.panic c) (a.put oi.dst v) w → Q (.panic c) a w) :
    ∀ (g : Nat) (L : Array Bool) (a : Act) (w : World),
      (∀ j oj, ops[j]? = some oj → j ≠ i → L.getD j true = false → (∀ e ∈ oj.after, Region.binds md e = true → e.on ≠ i) → oi.apart ops oj = true) →
      i ∈ Region.ready md ops L → YieldsIf P ops S oi v a → S w → wpT P md ops Q S n g (L.setIfInBounds i true) (a.put oi.dst v) w → wpT P md ops Q S n (g + 1) L a w := by
  intro g
  induction g with
  | zero =>
    intro L a w _ hr hy hS H
    refine ⟨fun h => (by rw [h] at hr; cases hr), fun j hj => ?_⟩
    by_cases hji : j = i
    · subst hji
      exact hy.wpOp hi hS ⟨fun _ => hS, H⟩
    · have h1 := ready_mono hj hji
      rw [H.1] at h1
      cases h1
  | succ g ih =>
    intro L a w hfree hr hy hS H
    refine ⟨fun h => (by rw [h] at hr; cases hr), fun j hj => ?_⟩
    by_cases hji : j = i
    · subst hji
      exact hy.wpOp hi hS ⟨fun _ => hS, H⟩
    have hiL := (mem_ready.1 hr).1
    have hjn : j < n := tailWaits_lt htail hiL hj
    have h1 := H.2 j (ready_mono hj hji)
    obtain ⟨hju, oj, hoj, hall⟩ := mem_ready.1 hj
    have hno : ∀ e ∈ oj.after, Region.binds md e = true → e.on ≠ i := by
      intro e he hb hei
      have h2 := hall e he hb
      rw [hei] at h2
      rcases Nat.lt_or_ge i L.size with h' | h'
      · simp only [Array.getD, h', dite_true] at hiL h2
        exact absurd (hiL.symm.trans h2) (by simp)
      · simp [Array.getD, Nat.not_lt.2 h'] at hiL
    have h2 := wpOp_putIf hoj (hfree j oj hoj hji hju hno) (fun cs b => hsel i oi cs b hi) (fun cs b => hsel j oj cs b hoj) hQ hy h1
    refine wpOp_mono (fun a' w' h3 => ⟨h3.2.1, ?_⟩) h2
    refine ih (L.setIfInBounds j true) a' w' (fun k ok hk hki hun hno' => ?_) (ready_mono hr (Ne.symm hji)) h3.1 (h3.2.1 hjn) ?_
    · refine hfree k ok hk hki ?_ hno'
      by_cases hjk : j = k
      · subst hjk; exact hju
      · rw [getD_set_ne true hjk] at hun; exact hun
    · rw [Array.setIfInBounds_comm _ _ hji]
      exact h3.2.2

/-- Take number i first. -/
theorem wpT_take {i : Nat} {oi : Oper} {v : Value} {g : Nat} {L : Array Bool} {a : Act} {w : World} (hi : ops[i]? = some oi)
    (hs : Region.noSelect ops = true) (hf : Region.free md ops L i = true) (hr : (Region.ready md ops L).contains i = true) (ht : tailWaits md ops n i = true)
    (hQ : ∀ c a w, Q (.panic c) (a.put oi.dst v) w → Q (.panic c) a w) (hy : YieldsIf P ops S oi v a) (hS : S w)
    (h : wpT P md ops Q S n g (L.setIfInBounds i true) (a.put oi.dst v) w) : wpT P md ops Q S n (g + 1) L a w :=
  wpT_first hi (Region.noSelect_spec hs) ht hQ g L a w (Region.free_spec hi hf) (by simpa using hr) hy hS h

/-- Only number i may come up. -/
theorem wpT_one {i : Nat} {o : Oper} {g : Nat} {L : Array Bool} {a : Act} {w : World} (ho : ops[i]? = some o) (hr : Region.ready md ops L = [i])
    (h : ∀ K' : Act → World → Prop, Shut (∀ a w, (i < n → S w) → wpT P md ops Q S n g (L.setIfInBounds i true) a w → K' a w) → if Region.wanted o (yielded ops a.tmps) = true then Oper.wp P o a w K' Q else K' (a.put o.dst undef) w) : wpT P md ops Q S n (g + 1) L a w := by
  refine ⟨fun h0 => (by rw [hr] at h0; cases h0), fun j hj => ?_⟩
  rw [hr] at hj
  obtain rfl : j = i := by simpa using hj
  exact wpOp_step ho fun K' hK => h K' fun a w hS hW => hK a w ⟨hS, hW⟩
/-- Two may come up. -/
theorem wpT_two {i j : Nat} {o p : Oper} {g : Nat} {L : Array Bool} {a : Act} {w : World} (ho : ops[i]? = some o) (hp : ops[j]? = some p) (hr : Region.ready md ops L = [i, j])
    (h : ∀ K' : Act → World → Prop, Shut (∀ a w, (i < n → S w) → wpT P md ops Q S n g (L.setIfInBounds i true) a w → K' a w) → if Region.wanted o (yielded ops a.tmps) = true then Oper.wp P o a w K' Q else K' (a.put o.dst undef) w)
    (h' : ∀ K' : Act → World → Prop, Shut (∀ a w, (j < n → S w) → wpT P md ops Q S n g (L.setIfInBounds j true) a w → K' a w) → if Region.wanted p (yielded ops a.tmps) = true then Oper.wp P p a w K' Q else K' (a.put p.dst undef) w) : wpT P md ops Q S n (g + 1) L a w := by
  refine ⟨fun h0 => (by rw [hr] at h0; cases h0), fun k hk => ?_⟩
  rw [hr] at hk
  rcases (by simpa using hk : k = i ∨ k = j) with rfl | rfl
  · exact wpOp_step ho fun K' hK => h K' fun a w hS hW => hK a w ⟨hS, hW⟩
  · exact wpOp_step hp fun K' hK => h' K' fun a w hS hW => hK a w ⟨hS, hW⟩
theorem wpT_done {g : Nat} {L : Array Bool} {a : Act} {w : World} (hr : Region.ready md ops L = []) (h : Q .normal a w) : wpT P md ops Q S n g L a w := by
  cases g with
  | zero => exact ⟨hr, h⟩
  | succ g => exact ⟨fun _ => h, by rw [hr]; simp⟩
theorem wp_region_T (n : Nat) (S : World → Prop) {id : Nat} {a : Act} {w : World} (hm : P.follows .mixedOrders = true) (h : wpT P .any ops Q S n ops.size (Array.replicate ops.size false) a w.drew) : (Code.region id ops true).wp P Q a w :=
  wp_region_any hm (wpAny_of_T _ _ _ _ h)

/-- append as one step of such a region. -/
theorem step_app {T E : TypeId} {size bytes : Nat} (R : RowType P T E size bytes) {o : Oper} {a : Act} {w : World} {K : Act → World → Prop} {X : Prop} (hgd : o.guard = none) (s x : Operand)
    (ho : o.op = .call { callee := .builtin .append, args := #[s, x], argTypes := #[T, T] })
    (base : Nat) (v : Value) (m : Nat) (xs : List Value) (hs : a.eval s = v) (hown : w.ownsRow base E size v m xs)
    (ad : Addr) (k c : Nat) (news : List Value) (hx : a.eval x = .slice (some ad) k c) (hl : news.length = k * size) (hnews : ∀ j u, news[j]? = some u → w.cell? (ad.add j) = some u) (h1 : ∀ u ∈ news, u.oneCell' = true)
    (h63 : m + k ≤ maxLen) (hbytes : (m + k) * bytes ≤ 140737488355328) (hbase : base ≤ w.heap.size)
    (h : ∀ v' w', w'.ownsRow base E size v' (m + k) (xs ++ news) → w.grownBy w' v.ownBlock → (v'.ownBlock = v.ownBlock ∨ v'.ownBlock = some w.heap.size) → Below base w w' → K (a.put o.dst v') w') :
    if Region.wanted o (yielded ops a.tmps) = true then Oper.wp P o a w K Q else X := by
  have hw : Region.wanted o (yielded ops a.tmps) = true := by simp [Region.wanted, hgd]
  rw [if_pos hw]
  obtain ⟨i, z, hi, hz, hsize, hby, hzs⟩ := R.ex
  obtain ⟨v', w', hr, h2, h3, _, h5⟩ := run_append_own_at (P := P) w base T o.type E i z size bytes R.ht hi hz hsize hby hzs R.pos v m xs hown ad k c news hl hnews h1 h63 hbytes hbase
  unfold Oper.wp execOp
  simp only [ho, resolve, invoke, builtin, Sem.run_bind, Sem.run_pure, Result.andThen_ok, List.map_toArray, List.map_cons, List.map_nil, hs, hx, hr]
  exact h _ _ h2 h3 h5 ((Below.refl _ _).grown h3 hbase (fun k hk => (hown.lt k hk).1))
/-- append of elements that lie at a place, or of none. -/
theorem step_app_any {T E : TypeId} {size bytes : Nat} (R : RowType P T E size bytes) {o : Oper} {a : Act} {w : World} {K : Act → World → Prop} {X : Prop} (hgd : o.guard = none) (s x : Operand)
    (ho : o.op = .call { callee := .builtin .append, args := #[s, x], argTypes := #[T, T] })
    (base : Nat) (v : Value) (m : Nat) (xs : List Value) (hs : a.eval s = v) (hown : w.ownsRow base E size v m xs)
    (A : Option Addr) (k c : Nat) (hx : a.eval x = .slice A k c) (ys : List Value) (hl : ys.length = k * size) (hA : A = none → k = 0 ∧ c = 0) (hsrc : ∀ ad, A = some ad → ∀ j u, ys[j]? = some u → w.cell? (ad.add j) = some u) (h1 : ∀ u ∈ ys, u.oneCell' = true)
    (h63 : m + k ≤ maxLen) (hbytes : (m + k) * bytes ≤ 140737488355328) (hbase : base ≤ w.heap.size)
    (h : ∀ v' w', w'.ownsRow base E size v' (m + k) (xs ++ ys) → Below base w w' → K (a.put o.dst v') w') :
    if Region.wanted o (yielded ops a.tmps) = true then Oper.wp P o a w K Q else X := by
  cases A with
  | none =>
    obtain ⟨rfl, rfl⟩ := hA rfl
    obtain ⟨i, z, hi, hz, hsize, hby, hzs⟩ := R.ex
    have hw : Region.wanted o (yielded ops a.tmps) = true := by simp [Region.wanted, hgd]
    rw [if_pos hw]
    have hrun := run_append_owned_none (P := P) (w := w) base T o.type E i size R.ht hi v m xs hown
    have hys : ys = [] := List.eq_nil_of_length_eq_zero (by omega)
    subst hys
    unfold Oper.wp
    simp [execOp, ho, resolve, invoke, builtin, hs, hx, hrun, Result.andThen]
    exact h v w (by simpa using hown) (Below.refl _ _)
  | some ad => exact step_app R hgd s x ho base v m xs hs hown ad k c ys hx hl (hsrc ad rfl) h1 h63 hbytes hbase fun v' w' k1 _ _ k4 => h v' w' k1 k4
end
end Go.Proofs.YtgnkncfnkjeinaaDoor
namespace Go.Proofs.YtgnkncfnkjeinaaDoor
open Go.RowKit Go.Proofs

abbrev Todo := Ty × List Str
/-- The cells of what is to be looked at, one behind the other. -/
inductive Cells6 (w : World) : List Value → List Todo → Prop where
  | nil : Cells6 w [] []
  | cons (t : Ty) (ns : List Str) (lv kv nv : Value) (xs : List Value) (ts : List Todo) (h1 : IsStrs w lv t.labels) (h2 : IsTys w kv t.kids) (h3 : Names w nv ns) (h : Cells6 w xs ts) :
      Cells6 w (.int .i64 t.kind :: .int .i64 t.sort :: .string ⟨t.name.toArray⟩ :: lv :: kv :: nv :: xs) ((t, ns) :: ts)
theorem Cells6.length {w : World} {xs : List Value} {ts : List Todo} (h : Cells6 w xs ts) : xs.length = ts.length * 6 := by
  induction h with
  | nil => rfl
  | cons => simp only [List.length_cons]; omega
theorem Cells6.append {w : World} {xs ys : List Value} {ts us : List Todo} (h : Cells6 w xs ts) (h' : Cells6 w ys us) : Cells6 w (xs ++ ys) (ts ++ us) := by
  induction h with
  | nil => exact h'
  | cons t ns lv kv nv xs ts h1 h2 h3 _ ih => exact .cons t ns lv kv nv _ _ h1 h2 h3 ih
theorem Cells6.keep {w w' : World} {xs : List Value} {ts : List Todo} (h : Cells6 w xs ts) (hb : Below w.heap.size w w') : Cells6 w' xs ts := by
  induction h with
  | nil => exact .nil
  | cons t ns lv kv nv xs ts h1 h2 h3 _ ih => exact .cons t ns lv kv nv _ _ (h1.keep hb) (h2.keep hb) (h3.keep hb) ih
theorem Cells6.one {w : World} {xs : List Value} {ts : List Todo} (h : Cells6 w xs ts) : ∀ u ∈ xs, u.oneCell' = true := by
  induction h with
  | nil => simp
  | cons t ns lv kv nv xs ts h1 h2 h3 _ ih =>
    intro u hu
    simp only [List.mem_cons] at hu
    rcases hu with rfl | rfl | rfl | rfl | rfl | rfl | hu
    · rfl
    · rfl
    · rfl
    · exact h1.one
    · exact h2.one
    · exact h3.one
    · exact ih u hu

/-- A slice of what is to be looked at. -/
def IsTodos (w : World) (v : Value) (st : List Todo) : Prop := ∃ A cap xs, v = .slice A st.length cap ∧ st.length ≤ cap ∧ Cells6 w xs st ∧ (A = none → st = [] ∧ cap = 0) ∧ ∀ ad, A = some ad → ad.spot = none ∧ ∀ j u, xs[j]? = some u → w.cell? (ad.add j) = some u
theorem own_todos {w : World} {base : Nat} {E : TypeId} {v : Value} {xs : List Value} {st : List Todo} (h : w.ownsRow base E 6 v st.length xs) (hc : Cells6 w xs st) : IsTodos w v st := by
  have hcells := fun g => h.cells (g := g)
  rcases h.2 with ⟨rfl, h0⟩ | ⟨g, cap, cur, rfl, _, _, hn, _⟩
  · exact ⟨none, 0, xs, by rw [h0], by omega, hc, fun _ => ⟨List.eq_nil_of_length_eq_zero h0, rfl⟩, fun ad e => by cases e⟩
  · refine ⟨_, cap, xs, rfl, hn, hc, (fun e => by cases e), fun ad e => ?_⟩
    cases e
    exact ⟨rfl, hcells g rfl⟩
theorem IsTodos.keep {w w' : World} {v : Value} {st : List Todo} (h : IsTodos w v st) (hb : Below w.heap.size w w') : IsTodos w' v st := by
  obtain ⟨A, cap, xs, h1, h2, h3, h4, h5⟩ := h
  refine ⟨A, cap, xs, h1, h2, h3.keep hb, h4, fun ad e => ⟨(h5 ad e).1, fun j u hj => ?_⟩⟩
  obtain ⟨b, off, spot⟩ := ad
  have h6 := (h5 _ e).1
  simp only at h6
  subst h6
  have := (h5 _ e).2 j u hj
  rw [Go.WideShapes.add_plain] at this ⊢
  exact cell_keep this hb
/-- The first, and what comes behind it. -/
theorem IsTodos.head {w : World} {A : Option Addr} {n cap : Nat} {t : Ty} {ns : List Str} {st : List Todo} (h : IsTodos w (.slice A n cap) ((t, ns) :: st)) :
    n = st.length + 1 ∧ n ≤ cap ∧ ∃ b off lv kv nv, A = some ⟨b, off, none⟩ ∧ w.cell? ⟨b, off, none⟩ = some (.int .i64 t.kind) ∧ w.cell? ⟨b, off + 1, none⟩ = some (.int .i64 t.sort) ∧ w.cell? ⟨b, off + 2, none⟩ = some (.string ⟨t.name.toArray⟩) ∧
      w.cell? ⟨b, off + 3, none⟩ = some lv ∧ w.cell? ⟨b, off + 4, none⟩ = some kv ∧ w.cell? ⟨b, off + 5, none⟩ = some nv ∧ IsStrs w lv t.labels ∧ IsTys w kv t.kids ∧ Names w nv ns ∧
      ∀ c, st.length ≤ c → IsTodos w (.slice (some ⟨b, off + 6, none⟩) st.length c) st := by
  obtain ⟨A', cap', xs, e, hle, hc, h0, h5⟩ := h
  injection e with e1 e2 e3
  subst e1 e2 e3
  simp only [List.length_cons] at hle ⊢
  refine ⟨trivial, hle, ?_⟩
  cases A with
  | none => exact absurd (h0 rfl).1 (by simp)
  | some ad =>
    obtain ⟨b, off, spot⟩ := ad
    obtain ⟨h6, h7⟩ := h5 _ rfl
    simp only at h6
    subst h6
    cases hc with
    | cons t ns lv kv nv xs ts h1 h2 h3 h =>
      have hcell : ∀ j u, (Value.int .i64 t.kind :: Value.int .i64 t.sort :: Value.string ⟨t.name.toArray⟩ :: lv :: kv :: nv :: xs)[j]? = some u → w.cell? ⟨b, off + j, none⟩ = some u := fun j u hj => by
        have := h7 j u hj
        rw [Go.WideShapes.add_plain] at this
        exact this
      refine ⟨b, off, lv, kv, nv, rfl, hcell 0 _ rfl, hcell 1 _ rfl, hcell 2 _ rfl, hcell 3 _ rfl, hcell 4 _ rfl, hcell 5 _ rfl, h1, h2, h3, fun c hcl => ⟨_, c, xs, rfl, hcl, h, (fun e => by cases e), fun ad e => ?_⟩⟩
      cases e
      refine ⟨rfl, fun j u hj => ?_⟩
      have := hcell (j + 6) u (by simpa using hj)
      rw [Go.WideShapes.add_plain, show off + 6 + j = off + (j + 6) by omega]
      exact this
theorem rt_todos : RowType Tryd.prog 69 68 6 104 := .mk' (z := .agg #[.int .i64 0, .int .i64 0, .string ⟨#[]⟩, .slice none 0 0, .slice none 0 0, .slice none 0 0]) Tryd.underlying69 (by kernel_rfl) rfl (by decide)
end Go.Proofs.YtgnkncfnkjeinaaDoor
namespace Go.Proofs.YtgnkncfnkjeinaaDoor
open Go.RowKit Go.Proofs

def IsGls (w : World) (v : Value) (ks : List Gl) : Prop := Gls All w v ks
def IsGl (w : World) (v : Value) (t : Gl) : Prop := GlV All w v t
theorem IsGls.keep {w w' : World} {v : Value} {ks : List Gl} (h : IsGls w v ks) (hb : Below w.heap.size w w') : IsGls w' v ks := Gls.below h hb
theorem IsGl.keep {w w' : World} {v : Value} {t : Gl} (h : IsGl w v t) (hb : Below w.heap.size w w') : IsGl w' v t := GlV.below h hb
theorem IsGls.one {w : World} {v : Value} {l : List Gl} (h : IsGls w v l) : v.oneCell' = true := Gls.one h
theorem isGl_of {w : World} {t : Gl} {lv kv : Value} (h1 : IsStrs w lv t.labels) (h2 : IsGls w kv t.kids) : IsGl w (.agg #[.int .i64 t.kind, .string ⟨t.frm.toArray⟩, .string ⟨t.rcv.toArray⟩, .int .i64 t.sort, .string ⟨t.name.toArray⟩, lv, kv]) t := ⟨lv, kv, rfl, StrsD.any h1, h2⟩
theorem gkid_all {w : World} {A : Option Addr} {n cap : Nat} {ks : List Gl} {i : Nat} {t : Gl} (h : IsGls w (.slice A n cap) ks) (hi : ks[i]? = some t) :
    n = ks.length ∧ n ≤ cap ∧ ∃ b off A1 n1 p1 A2 n2 p2, A = some ⟨b, off, none⟩ ∧ w.cell? ⟨b, off + i * 7, none⟩ = some (.int .i64 t.kind) ∧ w.cell? ⟨b, off + i * 7 + 1, none⟩ = some (.string ⟨t.frm.toArray⟩) ∧ w.cell? ⟨b, off + i * 7 + 2, none⟩ = some (.string ⟨t.rcv.toArray⟩) ∧ w.cell? ⟨b, off + i * 7 + 3, none⟩ = some (.int .i64 t.sort) ∧ w.cell? ⟨b, off + i * 7 + 4, none⟩ = some (.string ⟨t.name.toArray⟩) ∧
      w.cell? ⟨b, off + i * 7 + 5, none⟩ = some (.slice A1 n1 p1) ∧ w.cell? ⟨b, off + i * 7 + 6, none⟩ = some (.slice A2 n2 p2) ∧ IsStrs w (.slice A1 n1 p1) t.labels ∧ IsGls w (.slice A2 n2 p2) t.kids := by
  obtain ⟨h1, h2, b, off, A1, n1, p1, A2, n2, p2, e, -, c0, c1, c2, c3, c4, c5, c6, h3, h4⟩ := gkid_at h hi
  exact ⟨h1, h2, b, off, A1, n1, p1, A2, n2, p2, e, c0, c1, c2, c3, c4, c5, c6, h3.is, h4⟩

abbrev GTodo := Gl × List Str
/-- The cells of what is to be looked at, one behind the other. -/
inductive Cells8 (w : World) : List Value → List GTodo → Prop where
  | nil : Cells8 w [] []
  | cons (t : Gl) (ns : List Str) (lv kv nv : Value) (xs : List Value) (ts : List GTodo) (h1 : IsStrs w lv t.labels) (h2 : IsGls w kv t.kids) (h3 : Names w nv ns) (h : Cells8 w xs ts) :
      Cells8 w (.int .i64 t.kind :: .string ⟨t.frm.toArray⟩ :: .string ⟨t.rcv.toArray⟩ :: .int .i64 t.sort :: .string ⟨t.name.toArray⟩ :: lv :: kv :: nv :: xs) ((t, ns) :: ts)
theorem Cells8.length {w : World} {xs : List Value} {ts : List GTodo} (h : Cells8 w xs ts) : xs.length = ts.length * 8 := by
  induction h with
  | nil => rfl
  | cons => simp only [List.length_cons]; omega
theorem Cells8.append {w : World} {xs ys : List Value} {ts us : List GTodo} (h : Cells8 w xs ts) (h' : Cells8 w ys us) : Cells8 w (xs ++ ys) (ts ++ us) := by
  induction h with
  | nil => exact h'
  | cons t ns lv kv nv xs ts h1 h2 h3 _ ih => exact .cons t ns lv kv nv _ _ h1 h2 h3 ih
theorem Cells8.keep {w w' : World} {xs : List Value} {ts : List GTodo} (h : Cells8 w xs ts) (hb : Below w.heap.size w w') : Cells8 w' xs ts := by
  induction h with
  | nil => exact .nil
  | cons t ns lv kv nv xs ts h1 h2 h3 _ ih => exact .cons t ns lv kv nv _ _ (h1.keep hb) (h2.keep hb) (h3.keep hb) ih
theorem Cells8.one {w : World} {xs : List Value} {ts : List GTodo} (h : Cells8 w xs ts) : ∀ u ∈ xs, u.oneCell' = true := by
  induction h with
  | nil => simp
  | cons t ns lv kv nv xs ts h1 h2 h3 _ ih =>
    intro u hu
    simp only [List.mem_cons] at hu
    rcases hu with rfl | rfl | rfl | rfl | rfl | rfl | rfl | rfl | hu
    · rfl
    · rfl
    · rfl
    · rfl
    · rfl
    · exact h1.one
    · exact h2.one
    · exact h3.one
    · exact ih u hu

/-- A slice of what is to be looked at. -/
def IsGTodos (w : World) (v : Value) (st : List GTodo) : Prop := ∃ A cap xs, v = .slice A st.length cap ∧ st.length ≤ cap ∧ Cells8 w xs st ∧ (A = none → st = [] ∧ cap = 0) ∧ ∀ ad, A = some ad → ad.spot = none ∧ ∀ j u, xs[j]? = some u → w.cell? (ad.add j) = some u
theorem own_gtodos {w : World} {base : Nat} {E : TypeId} {v : Value} {xs : List Value} {st : List GTodo} (h : w.ownsRow base E 8 v st.length xs) (hc : Cells8 w xs st) : IsGTodos w v st := by
  have hcells := fun g => h.cells (g := g)
  rcases h.2 with ⟨rfl, h0⟩ | ⟨g, cap, cur, rfl, _, _, hn, _⟩
  · exact ⟨none, 0, xs, by rw [h0], by omega, hc, fun _ => ⟨List.eq_nil_of_length_eq_zero h0, rfl⟩, fun ad e => by cases e⟩
  · refine ⟨_, cap, xs, rfl, hn, hc, (fun e => by cases e), fun ad e => ?_⟩
    cases e
    exact ⟨rfl, hcells g rfl⟩
theorem IsGTodos.keep {w w' : World} {v : Value} {st : List GTodo} (h : IsGTodos w v st) (hb : Below w.heap.size w w') : IsGTodos w' v st := by
  obtain ⟨A, cap, xs, h1, h2, h3, h4, h5⟩ := h
  refine ⟨A, cap, xs, h1, h2, h3.keep hb, h4, fun ad e => ⟨(h5 ad e).1, fun j u hj => ?_⟩⟩
  obtain ⟨b, off, spot⟩ := ad
  have h6 := (h5 _ e).1
  simp only at h6
  subst h6
  have := (h5 _ e).2 j u hj
  rw [Go.WideShapes.add_plain] at this ⊢
  exact cell_keep this hb
/-- The first, and what comes behind it. -/
theorem IsGTodos.head {w : World} {A : Option Addr} {n cap : Nat} {t : Gl} {ns : List Str} {st : List GTodo} (h : IsGTodos w (.slice A n cap) ((t, ns) :: st)) :
    n = st.length + 1 ∧ n ≤ cap ∧ ∃ b off lv kv nv, A = some ⟨b, off, none⟩ ∧ w.cell? ⟨b, off, none⟩ = some (.int .i64 t.kind) ∧ w.cell? ⟨b, off + 1, none⟩ = some (.string ⟨t.frm.toArray⟩) ∧ w.cell? ⟨b, off + 2, none⟩ = some (.string ⟨t.rcv.toArray⟩) ∧ w.cell? ⟨b, off + 3, none⟩ = some (.int .i64 t.sort) ∧ w.cell? ⟨b, off + 4, none⟩ = some (.string ⟨t.name.toArray⟩) ∧
      w.cell? ⟨b, off + 5, none⟩ = some lv ∧ w.cell? ⟨b, off + 6, none⟩ = some kv ∧ w.cell? ⟨b, off + 7, none⟩ = some nv ∧ IsStrs w lv t.labels ∧ IsGls w kv t.kids ∧ Names w nv ns ∧
      ∀ c, st.length ≤ c → IsGTodos w (.slice (some ⟨b, off + 8, none⟩) st.length c) st := by
  obtain ⟨A', cap', xs, e, hle, hc, h0, h5⟩ := h
  injection e with e1 e2 e3
  subst e1 e2 e3
  simp only [List.length_cons] at hle ⊢
  refine ⟨trivial, hle, ?_⟩
  cases A with
  | none => exact absurd (h0 rfl).1 (by simp)
  | some ad =>
    obtain ⟨b, off, spot⟩ := ad
    obtain ⟨h6, h7⟩ := h5 _ rfl
    simp only at h6
    subst h6
    cases hc with
    | cons t ns lv kv nv xs ts h1 h2 h3 h =>
      have hcell : ∀ j u, (Value.int .i64 t.kind :: Value.string ⟨t.frm.toArray⟩ :: Value.string ⟨t.rcv.toArray⟩ :: Value.int .i64 t.sort :: Value.string ⟨t.name.toArray⟩ :: lv :: kv :: nv :: xs)[j]? = some u → w.cell? ⟨b, off + j, none⟩ = some u := fun j u hj => by
        have := h7 j u hj
        rw [Go.WideShapes.add_plain] at this
        exact this
      refine ⟨b, off, lv, kv, nv, rfl, hcell 0 _ rfl, hcell 1 _ rfl, hcell 2 _ rfl, hcell 3 _ rfl, hcell 4 _ rfl, hcell 5 _ rfl, hcell 6 _ rfl, hcell 7 _ rfl, h1, h2, h3, fun c hcl => ⟨_, c, xs, rfl, hcl, h, (fun e => by cases e), fun ad e => ?_⟩⟩
      cases e
      refine ⟨rfl, fun j u hj => ?_⟩
      have := hcell (j + 8) u (by simpa using hj)
      rw [Go.WideShapes.add_plain, show off + 8 + j = off + (j + 8) by omega]
      exact this
theorem rt_gtodos : RowType Tryd.prog 94 93 8 136 := .mk' (z := .agg #[.int .i64 0, .string ⟨#[]⟩, .string ⟨#[]⟩, .int .i64 0, .string ⟨#[]⟩, .slice none 0 0, .slice none 0 0, .slice none 0 0]) Tryd.underlying94 (by kernel_rfl) rfl (by decide)
end Go.Proofs.YtgnkncfnkjeinaaDoor
